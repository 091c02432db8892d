/- Part 4 of 6 of the proof of LayerTellsCardSaid: a law of the given program, for every input; no condition is added. -/
import Derived.Test.YtdjamphmndbmjaaGreatDoorLayerTellsB2
import Derived.WalkLawsBesides
import Derived.Lib.SliceRun
import Derived.Deep.RegionHeld3
/- Package set by hand: Both, Has; stratasame.Triples. -/
namespace Go.Proofs.YtdjamphmndbmjaaGreatDoor.M
open Go.RowKit Go.Proofs.YtdjamphmndbmjaaGreatDoorW.PrintWords Go.Proofs.YtdjamphmndbmjaaGreatDoorW.PrintLast Go.Proofs.YtdjamphmndbmjaaGreatDoorW.PrintMore
set_option linter.unusedVariables false
set_option linter.unusedSimpArgs false

theorem cells1 (w : World) (A0 : Option Addr) (c0 n0 : Nat) (T : Nat) : (w.alloc (.cells #[.slice A0 n0 c0] T)).cell? ⟨w.heap.size, 0, none⟩ = some (.slice A0 n0 c0) := (blk_cell (blk_new w _) 0).trans rfl
theorem cells1b (w : World) (o : Obj) (A0 : Option Addr) (c0 n0 : Nat) (T : Nat) : ((w.alloc o).alloc (.cells #[.slice A0 n0 c0] T)).cell? ⟨w.heap.size + 1, 0, none⟩ = some (.slice A0 n0 c0) := by rw [← alloc_size1 w o]; exact cells1 _ _ _ _ _
end Go.Proofs.YtdjamphmndbmjaaGreatDoor.M

/- stratasame.Triples by hand. -/
namespace Go.Proofs.YtdjamphmndbmjaaGreatDoor.M
open Go.RowKit Go.Proofs.YtdjamphmndbmjaaGreatDoorW.PrintWords Go.Proofs.YtdjamphmndbmjaaGreatDoorW.PrintLast Go.Proofs.YtdjamphmndbmjaaGreatDoorW.PrintMore
set_option linter.unusedVariables false
set_option linter.unusedSimpArgs false

attribute [local go_sem high] eqTR
set_option maxHeartbeats 4000000 in
set_option maxRecDepth 100000 in
theorem same_calls (A0 A1 : Option Addr) (c0 c1 : Nat) (l0 l1 : List S25) (w : World) (hr0 : Kd.C k25 w A0 l0.length l0) (hr1 : Kd.C k25 w A1 l1.length l1) :
    Calls Tryz.prog 20 #[.slice A0 l0.length c0, .slice A1 l1.length c1] w fun e w' => e = .returned (.bool (decide (l0 = l1))) ∧ ∃ q, w' = w.drewN q := by
  have hbig : l0.length ≤ 9223372036854775807 := by have := hr0.2.1; simpa [maxLen] using this
  have hu25 := Tryz.underlying25
  by_cases hlen : l0.length = l1.length
  · have HR0 := Aside0.mk hr0
    have HR1 := Aside0.mk hr1
    have hlz : ((l0.length : Int) != (l1.length : Int)) = false := by rw [hlen]; simp
    have hlz2 : (l0.length == l1.length) = true := by simpa using hlen
    obtain ⟨n, hn⟩ : ∃ n, l0.length = n := ⟨_, rfl⟩
    have hn1 : l1.length = n := by omega
    rw [hn, hn1] at hlz hlz2
    have HN := Aside0.mk hn
    have HN1 := Aside0.mk hn1
    rw [hn] at hbig
    rw [hn, hn1]
    clear hr0 hr1 hlen hn hn1
    go_enter Tryz.func20, Tryz.ntmps20
    go_wp2
    repeat (go_quiet (fail); try go_wp2)
    go_loopg [5] n (fun gg s5 wr => ∃ i : Nat, i ≤ n ∧ n - i ≤ gg ∧ s5 = .int .i64 i ∧ Aside0 (l0.take i = l1.take i) ∧ ∃ q, wr = w.drewN q)
    case atStart => exact ⟨0, by omega, by omega, rfl, ⟨rfl⟩, by first | exact ⟨0, rfl⟩ | exact ⟨_, rfl⟩⟩
    case round =>
      obtain ⟨i, hin, hgg, rfl, HT, q, rfl⟩ := hrel
      by_cases hlt : i < n
      · have hltz : (i : Int) < (n : Int) := by omega
        have h0l : i < l0.length := by rw [HN.out]; exact hlt
        have h1l : i < l1.length := by rw [HN1.out]; exact hlt
        obtain ⟨ad0, e0, a0, a1, a2, a3, a4, a5, a6, a7, a8⟩ := at_T25 HR0.out (i : Int) (by omega) (by omega)
        obtain ⟨ad1, e1, b0, b1, b2, b3, b4, b5, b6, b7, b8⟩ := at_T25 HR1.out (i : Int) (by omega) (by omega)
        subst e0; subst e1
        rw [rd_T25_at l0 i h0l, Int.toNat_natCast] at a0 a1 a2 a3 a4 a5 a6 a7 a8
        rw [rd_T25_at l1 i h1l, Int.toNat_natCast] at b0 b1 b2 b3 b4 b5 b6 b7 b8
        have ht0 := take_one l0 i h0l
        have ht1 := take_one l1 i h1l
        have hd : ∀ h : l0 = l1, l0[i] = l1[i] := fun h => by subst h; rfl
        obtain ⟨x, hx⟩ : ∃ x, l0[i] = x := ⟨_, rfl⟩
        obtain ⟨y, hy⟩ : ∃ y, l1[i] = y := ⟨_, rfl⟩
        rw [hx] at a0 a1 a2 a3 a4 a5 a6 a7 a8 ht0 hd
        rw [hy] at b0 b1 b2 b3 b4 b5 b6 b7 b8 ht1 hd
        have HT0 := Aside0.mk ht0
        have HT1 := Aside0.mk ht1
        have HD := Aside0.mk hd
        have heq := eqE_decide x y
        clear ht0 ht1 hd hx hy h0l h1l
        by_cases hxy : x = y
        · rw [decide_eq_true hxy] at heq
          have HXY := Aside0.mk hxy
          clear hxy
          go_wp2
          repeat (go_quiet (fail); try go_wp2)
          go_roundg (n - (i + 1))
          case measure => omega
          case rel => exact ⟨i + 1, by omega, Nat.le_refl _, by go_num, ⟨by rw [HT0.out, HT1.out, HT.out, HXY.out]⟩, _, rfl⟩
        · rw [decide_eq_false hxy] at heq
          have HXY := Aside0.mk hxy
          clear hxy
          go_wp2
          repeat (go_quiet (fail); try go_wp2)
          go_ret
          exact ⟨by rw [decide_eq_false (fun h => HXY.out (HD.out h))]; rfl, _, World.drewN_drewN _ _ _⟩
      · have hltz : ¬ (i : Int) < (n : Int) := by omega
        obtain rfl : i = n := by omega
        go_wp2
        go_ret
        have ht := HT.out
        rw [List.take_of_length_le (by rw [HN.out]; exact Nat.le_refl _), List.take_of_length_le (by rw [HN1.out]; exact Nat.le_refl _)] at ht
        exact ⟨by rw [decide_eq_true ht]; rfl, _, rfl⟩
  · have hne : ¬ l0 = l1 := fun h => hlen (by rw [h])
    rw [decide_eq_false hne]
    have hlz : ((l0.length : Int) != (l1.length : Int)) = true := by rw [bne_iff_ne]; omega
    have hlz2 : (l0.length == l1.length) = false := by simpa using hlen
    clear hr0 hr1 hne
    go_enter Tryz.func20, Tryz.ntmps20
    go_wp2
    repeat (go_quiet (fail); try go_wp2)
    go_ret
    exact ⟨rfl, by first | exact ⟨0, rfl⟩ | exact ⟨_, rfl⟩⟩
end Go.Proofs.YtdjamphmndbmjaaGreatDoor.M

/- Sets in plain words: what strict lists that have the same are, what the union and the parts have. No program in sight. -/
namespace Go.Proofs.YtdjamphmndbmjaaGreatDoor.M
open Go.RowKit Go.Proofs.YtdjamphmndbmjaaGreatDoorW.PrintWords Go.Proofs.YtdjamphmndbmjaaGreatDoorW.PrintLast Go.Proofs.YtdjamphmndbmjaaGreatDoorW.PrintMore
set_option linter.unusedVariables false
set_option linter.unusedSimpArgs false

open Go.Lib
def Strict (l : List S25) : Prop := l.Pairwise fun a b => cmpR a b < 0
theorem cmp_irrefl (x : S25) : ¬ cmpR x x < 0 := by rw [(lawR.zero x x).2 rfl]; omega
theorem Strict.nodup {l : List S25} (h : Strict l) : l.Nodup := h.imp fun {a b} hab he => by subst he; exact cmp_irrefl _ hab
theorem strict_ext {l l' : List S25} (h : Strict l) (h' : Strict l') (hm : ∀ x, x ∈ l ↔ x ∈ l') : l = l' := by
  have hp : l.Perm l' := (List.perm_ext_iff_of_nodup h.nodup h'.nodup).2 hm
  exact hp.eq_of_pairwise (le := fun a b => cmpR a b < 0) (fun a b _ _ h1 h2 => absurd (lawR.trans a b a h1 h2) (cmp_irrefl a)) h h'
theorem inR_iff {l : List S25} {x : S25} : inR l x = true ↔ x ∈ l := by
  unfold inR
  rw [List.any_eq_true]
  constructor
  · rintro ⟨y, hy, he⟩
    rw [← of_decide_eq_true he]; exact hy
  · exact fun h => ⟨x, h, decide_eq_true rfl⟩
theorem mem_partR {a b : List S25} {is : Bool} {x : S25} : x ∈ partR a b is ↔ x ∈ a ∧ (x ∈ b ↔ is = true) := by
  unfold partR
  rw [List.mem_filter, beq_iff_eq, ← inR_iff (l := b)]
  cases inR b x <;> cases is <;> simp
/-! the union -/
theorem mem_uniqFrom {p : S25} {l : List S25} {x : S25} : x ∈ uniqFrom p l → x ∈ l := by
  induction l generalizing p with
  | nil => intro h; cases h
  | cons y l ih =>
    unfold uniqFrom
    split
    · exact fun h => List.mem_cons_of_mem _ (ih h)
    · intro h
      rcases List.mem_cons.1 h with h | h
      · rw [h]; exact List.mem_cons_self
      · exact List.mem_cons_of_mem _ (ih h)
theorem uniqFrom_mem {p : S25} {l : List S25} {x : S25} : x ∈ l → x = p ∨ x ∈ uniqFrom p l := by
  induction l generalizing p with
  | nil => intro h; cases h
  | cons y l ih =>
    intro h
    unfold uniqFrom
    split
    · rename_i e
      rcases List.mem_cons.1 h with h | h
      · exact .inl (h.trans e)
      · exact ih h
    · rcases List.mem_cons.1 h with h | h
      · exact .inr (by rw [h]; exact List.mem_cons_self)
      · rcases ih (p := y) h with h | h
        · exact .inr (by rw [h]; exact List.mem_cons_self)
        · exact .inr (List.mem_cons_of_mem _ h)
theorem mem_uniq {l : List S25} {x : S25} : x ∈ uniq l ↔ x ∈ l := by
  cases l with
  | nil => exact Iff.rfl
  | cons y l =>
    unfold uniq
    rw [List.mem_cons, List.mem_cons]
    constructor
    · rintro (h | h)
      · exact .inl h
      · exact .inr (mem_uniqFrom h)
    · rintro (h | h)
      · exact .inl h
      · exact uniqFrom_mem h
theorem strict_uniqFrom {p : S25} {l : List S25} (h : (p :: l).Pairwise fun a b => cmpR a b ≤ 0) : (∀ x ∈ uniqFrom p l, cmpR p x < 0) ∧ Strict (uniqFrom p l) := by
  induction l generalizing p with
  | nil => exact ⟨fun x hx => (by cases hx), List.Pairwise.nil⟩
  | cons y l ih =>
    have hpy : cmpR p y ≤ 0 := List.rel_of_pairwise_cons h List.mem_cons_self
    have hy : (y :: l).Pairwise fun a b => cmpR a b ≤ 0 := List.Pairwise.of_cons h
    unfold uniqFrom
    split
    · rename_i e; subst e
      exact ih hy
    · rename_i e
      have hlt : cmpR p y < 0 := by
        rcases Int.lt_or_eq_of_le hpy with h | h
        · exact h
        · exact absurd ((lawR.zero p y).1 h).symm e
      obtain ⟨h1, h2⟩ := ih hy
      refine ⟨fun x hx => ?_, List.Pairwise.cons h1 h2⟩
      rcases List.mem_cons.1 hx with hx | hx
      · rw [hx]; exact hlt
      · exact lawR.trans p y x hlt (h1 x hx)
theorem sortL_sorted (l : List S25) : (sortL l).Pairwise fun a b => cmpR a b ≤ 0 := by
  have h := List.pairwise_mergeSort (le := fun x y => !(ltOf cmpR) y x) (fun a b c => by
      unfold ltOf
      simp only [Bool.not_eq_true', decide_eq_false_iff_not]
      intro h1 h2 h3
      exact absurd h3 (by have := swoR.ntrans c b a; unfold ltOf at this; simp only [decide_eq_false_iff_not] at this; exact this h2 h1)) (fun a b => by
      unfold ltOf
      rw [Bool.or_eq_true, Bool.not_eq_true', Bool.not_eq_true', decide_eq_false_iff_not, decide_eq_false_iff_not]
      have := lawR.anti a b
      omega) l
  refine h.imp fun {a b} hab => ?_
  unfold ltOf at hab
  simp only [Bool.not_eq_true', decide_eq_false_iff_not] at hab
  have := lawR.anti a b
  omega
theorem strict_unionR (a b : List S25) : Strict (unionR a b) := by
  unfold unionR
  have h := sortL_sorted (a ++ b)
  generalize sortL (a ++ b) = l at h
  cases l with
  | nil => exact List.Pairwise.nil
  | cons x l =>
    obtain ⟨h1, h2⟩ := strict_uniqFrom h
    exact List.Pairwise.cons h1 h2
theorem mem_unionR {a b : List S25} {x : S25} : x ∈ unionR a b ↔ x ∈ a ∨ x ∈ b := by
  unfold unionR
  rw [mem_uniq]
  unfold sortL
  rw [List.mem_mergeSort, List.mem_append]
end Go.Proofs.YtdjamphmndbmjaaGreatDoor.M

/- What the walks of several laws share: the triple of the facts, the rows it lies in. -/
namespace Go.Proofs.YtdjamphmndbmjaaGreatDoor.M
open Go.RowKit Go.Proofs.YtdjamphmndbmjaaGreatDoorW.PrintWords Go.Proofs.YtdjamphmndbmjaaGreatDoorW.PrintLast Go.Proofs.YtdjamphmndbmjaaGreatDoorW.PrintMore
set_option linter.unusedVariables false
set_option linter.unusedSimpArgs false

theorem row_one (w : World) (x : S25) : Kd.C k25 (w.alloc (.cells (celR x) 25)) (some ⟨w.heap.size, 0, none⟩) 1 [x] := by
  refine ⟨rfl, by simp, fun _ => ⟨_, rfl, fun j p hj => ?_⟩⟩
  have hj0 : j = 0 := by
    rcases j with _ | j
    · rfl
    · simp at hj
  subst hj0
  obtain rfl : x = p := by simpa using hj
  refine ⟨(celR x).toList, rfl, k25_mk _ x, fun i u hi => ?_⟩
  have ha : Addr.add ⟨w.heap.size, 0, none⟩ (0 * 9 + i) = ⟨w.heap.size, i, none⟩ := by simp [Addr.add]; intro h; exact h.symm
  have e9 : k25.sz = 9 := rfl
  rw [e9, ha]
  exact (blk_cell (blk_new w _) i).trans (by rw [← hi]; simp)
theorem C_none (w : World) : Kd.C k25 w none 0 ([] : List S25) := ⟨rfl, by simp, fun h => absurd h (Nat.lt_irrefl 0)⟩
theorem same_true {l0 l1 : List S25} (h : l0 = l1) (A0 A1 : Option Addr) (c0 c1 : Nat) (w : World) (hr0 : Kd.C k25 w A0 l0.length l0) (hr1 : Kd.C k25 w A1 l1.length l1) :
    Calls Tryz.prog 20 #[.slice A0 l0.length c0, .slice A1 l1.length c1] w fun e w' => e = .returned (.bool true) ∧ Below w.heap.size w w' := by
  have hc := same_calls A0 A1 c0 c1 l0 l1 w hr0 hr1
  rw [decide_eq_true h] at hc
  exact hc.mono fun _ _ ⟨he, q, hq⟩ => ⟨he, by rw [hq]; exact pw_below_drewN (Below.refl _ _) q⟩
end Go.Proofs.YtdjamphmndbmjaaGreatDoor.M

/- Layers in plain words: what is wrong with one, what is between two sets, what one makes of a set, one behind another. No program in sight. -/
namespace Go.Proofs.YtdjamphmndbmjaaGreatDoor.M
open Go.RowKit Go.Proofs.YtdjamphmndbmjaaGreatDoorW.PrintWords Go.Proofs.YtdjamphmndbmjaaGreatDoorW.PrintLast Go.Proofs.YtdjamphmndbmjaaGreatDoorW.PrintMore
set_option linter.unusedVariables false
set_option linter.unusedSimpArgs false

def layErr (a t : List S25) : Option Int := match right2 a t with | some e => some e | none => if (partR a t true).length > 0 then some 7 else none
def betwR (a b : List S25) : (List S25 × List S25) × Option Int := match right2 a b with | some e => (([], []), some e) | none => ((partR b a false, partR a b false), none)
def applyR (s a t : List S25) : List S25 × Option Int :=
  match sortedR s with
  | some e => ([], some e)
  | none => match layErr a t with
    | some e => ([], some e)
    | none => if (partR a s true).length > 0 then ([], some 7) else if (partR t s false).length > 0 then ([], some 5) else if (unionR (partR s t false) a).length > 200 then ([], some 4) else (unionR (partR s t false) a, none)
def thenR (a t a' t' : List S25) : (List S25 × List S25) × Option Int :=
  match layErr a t with
  | some e => (([], []), some e)
  | none => match layErr a' t' with
    | some e => (([], []), some e)
    | none => if (partR a a' true).length > 0 ∨ (partR t t' true).length > 0 then (([], []), some 7) else if (unionR (partR a t' false) (partR a' t false)).length > 200 ∨ (unionR (partR t a' false) (partR t' a false)).length > 200 then (([], []), some 4) else ((unionR (partR a t' false) (partR a' t false), unionR (partR t a' false) (partR t' a false)), none)
theorem mem_both {a b : List S25} {x : S25} : x ∈ partR a b true ↔ x ∈ a ∧ x ∈ b := by rw [mem_partR]; simp
theorem part_both {a b : List S25} : partR a b true = [] ↔ ∀ x ∈ a, ¬ x ∈ b := by
  rw [List.eq_nil_iff_forall_not_mem]
  constructor
  · exact fun h x hx hb => h x (mem_both.2 ⟨hx, hb⟩)
  · intro h x hx
    obtain ⟨h1, h2⟩ := mem_both.1 hx
    exact h x h1 h2
theorem lay_none {a t : List S25} (h : layErr a t = none) : sortedR a = none ∧ sortedR t = none ∧ ∀ x ∈ a, ¬ x ∈ t := by
  unfold layErr at h
  cases hr : right2 a t with
  | some e => rw [hr] at h; cases h
  | none =>
    rw [hr] at h
    simp only at h
    obtain ⟨h1, h2⟩ := right2_none.1 hr
    refine ⟨h1, h2, part_both.1 ?_⟩
    by_cases hl : (partR a t true).length > 0
    · rw [if_pos hl] at h; cases h
    · exact List.eq_nil_of_length_eq_zero (by omega)
theorem betw_ok {a b : List S25} (ha : sortedR a = none) (hb : sortedR b = none) : betwR a b = ((partR b a false, partR a b false), none) := by
  unfold betwR
  rw [right2_none.2 ⟨ha, hb⟩]
end Go.Proofs.YtdjamphmndbmjaaGreatDoor.M

/- Package strataref1 in plain words: what its words on sets come to. No program in sight. -/
namespace Go.Proofs.YtdjamphmndbmjaaGreatDoor.M
open Go.RowKit Go.Proofs.YtdjamphmndbmjaaGreatDoorW.PrintWords Go.Proofs.YtdjamphmndbmjaaGreatDoorW.PrintLast Go.Proofs.YtdjamphmndbmjaaGreatDoorW.PrintMore
set_option linter.unusedVariables false
set_option linter.unusedSimpArgs false

theorem sortedFrom_ne : ∀ {p : Option S25} {l : List S25} {n : Int}, sortedFrom p l = some n → n ≠ 0
  | _, [], _, h => by cases h
  | p, t :: l, n, h => by
    unfold sortedFrom at h
    cases hc : chkR t with
    | some e => rw [hc] at h; cases h; exact chkR_ne hc
    | none =>
      rw [hc] at h
      simp only at h
      cases p with
      | none =>
        simp only [Bool.false_eq_true, if_false] at h
        exact sortedFrom_ne h
      | some q =>
        simp only [decide_eq_true_eq] at h
        by_cases hq : 0 ≤ cmpR q t
        · rw [if_pos hq] at h; cases h; decide
        · rw [if_neg hq] at h; exact sortedFrom_ne h
theorem sortedR_ne {l : List S25} {n : Int} (h : sortedR l = some n) : n ≠ 0 := by
  unfold sortedR at h
  split at h
  · cases h; decide
  · exact sortedFrom_ne h
theorem right2_ne {a b : List S25} {n : Int} (h : right2 a b = some n) : n ≠ 0 := by
  unfold right2 at h
  cases ha : sortedR a with
  | some e => rw [ha] at h; cases h; exact sortedR_ne ha
  | none => rw [ha] at h; exact sortedR_ne h
theorem layErr_ne {a t : List S25} {n : Int} (h : layErr a t = some n) : n ≠ 0 := by
  unfold layErr at h
  cases hr : right2 a t with
  | some e => rw [hr] at h; cases h; exact right2_ne hr
  | none =>
    rw [hr] at h
    simp only at h
    split at h
    · cases h; decide
    · cases h
/-- A triple more, in its place. -/
theorem strict_insert {m : List S25} {x : S25} {k : Nat} (hm : Strict m) (hlo : ∀ j (h : j < m.length), j < k → cmpR m[j] x < 0) (hhi : ∀ j (h : j < m.length), k ≤ j → 0 < cmpR m[j] x) : Strict (m.take k ++ x :: m.drop k) := by
  have h0 := hm
  rw [← List.take_append_drop k m] at h0
  obtain ⟨h1, h2, h3⟩ := List.pairwise_append.1 h0
  refine List.pairwise_append.2 ⟨h1, List.pairwise_cons.2 ⟨?_, h2⟩, ?_⟩
  · intro y hy
    obtain ⟨j, hj, rfl⟩ := List.getElem_of_mem hy
    rw [List.getElem_drop, lawR.anti]
    have := hhi (k + j) (by rw [List.length_drop] at hj; omega) (by omega)
    omega
  · intro y hy z hz
    rcases List.mem_cons.1 hz with rfl | hz
    · obtain ⟨j, hj, rfl⟩ := List.getElem_of_mem hy
      rw [List.getElem_take]
      rw [List.length_take] at hj
      exact hlo j (by omega) (by omega)
    · exact h3 y hy z hz
theorem strict_below {m : List S25} {x : S25} {k : Nat} (hm : Strict m) (hk : 0 < k → ∃ h : k - 1 < m.length, cmpR m[k - 1] x < 0) : ∀ j (h : j < m.length), j < k → cmpR m[j] x < 0 := by
  intro j h hjk
  obtain ⟨h1, h2⟩ := hk (by omega)
  rcases Nat.lt_or_ge j (k - 1) with hlt | hge
  · exact lawR.trans _ _ _ (List.pairwise_iff_getElem.1 hm j (k - 1) h h1 hlt) h2
  · obtain rfl : j = k - 1 := by omega
    exact h2
theorem mem_insert {m : List S25} {x y : S25} {k : Nat} : y ∈ m.take k ++ x :: m.drop k ↔ y ∈ m ∨ y = x := by
  have h : y ∈ m ↔ y ∈ m.take k ++ m.drop k := by rw [List.take_append_drop]
  rw [h]
  simp only [List.mem_append, List.mem_cons]
  constructor
  · rintro (h | rfl | h)
    · exact .inl (.inl h)
    · exact .inr rfl
    · exact .inl (.inr h)
  · rintro ((h | h) | rfl)
    · exact .inl h
    · exact .inr (.inr h)
    · exact .inr (.inl rfl)
theorem mem_take_succ {l : List S25} {i : Nat} (h : i < l.length) (y : S25) : y ∈ l.take (i + 1) ↔ y ∈ l.take i ∨ y = l[i] := by
  rw [List.take_succ_eq_append_getElem h, List.mem_append, List.mem_singleton]
/-- A row in which a place is laid free: the part before it, what lies in it, the part behind. -/
theorem shift_one {m : List S25} {y : S25} {j : Nat} (hj : 0 < j) (hjl : j ≤ m.length) (z : S25) (hz : z = m[j - 1]'(by omega)) : (m.take j ++ y :: m.drop j).set j z = m.take (j - 1) ++ z :: m.drop (j - 1) := by
  have h1 : m.take j = m.take (j - 1) ++ [z] := by
    rw [hz, ← List.take_succ_eq_append_getElem (by omega)]
    congr 1
    omega
  have h2 : m.drop (j - 1) = z :: m.drop j := by
    rw [hz, List.drop_eq_getElem_cons (by omega : j - 1 < m.length)]
    congr 2
    omega
  have hlen : (m.take j).length = j := by rw [List.length_take]; omega
  rw [List.set_append_right _ _ (by omega), hlen, Nat.sub_self, List.set_cons_zero, h1, h2]
  simp
theorem shift_get {m : List S25} {y : S25} {j : Nat} (hj : 0 < j) (hjl : j ≤ m.length) : (m.take j ++ y :: m.drop j)[j - 1]? = some (m[j - 1]'(by omega)) := by
  have hlen : (m.take j).length = j := by rw [List.length_take]; omega
  rw [List.getElem?_append_left (by omega), List.getElem?_take_of_lt (by omega), List.getElem?_eq_getElem]
theorem place_set {m : List S25} {y : S25} {k : Nat} (hk : k ≤ m.length) (x : S25) : (m.take k ++ y :: m.drop k).set k x = m.take k ++ x :: m.drop k := by
  have hlen : (m.take k).length = k := by rw [List.length_take]; omega
  rw [List.set_append_right _ _ (by omega), hlen, Nat.sub_self, List.set_cons_zero]
theorem strict_nil : Strict [] := List.Pairwise.nil
end Go.Proofs.YtdjamphmndbmjaaGreatDoor.M

/- strataref1's words on one term and one triple: they say what term.Check and its like say (printed by wip/gen_r1.py). -/
namespace Go.Proofs.YtdjamphmndbmjaaGreatDoor.M
open Go.RowKit Go.Proofs.YtdjamphmndbmjaaGreatDoorW.PrintWords Go.Proofs.YtdjamphmndbmjaaGreatDoorW.PrintLast Go.Proofs.YtdjamphmndbmjaaGreatDoorW.PrintMore
set_option linter.unusedVariables false
set_option linter.unusedSimpArgs false

theorem bt_get (s : ByteArray) (j : Nat) (h : j < (bytesOf s).length) : (bytesOf s)[j] = bt s j := by
  rw [← rd_bytesOf]
  simp [rd, List.getD_eq_getElem?_getD, h]
theorem all_bt_true {s : ByteArray} {p : Int → Bool} (h : ∀ j : Nat, j < s.size → p (bt s j) = true) : (bytesOf s).all p = true := by
  rw [List.all_eq_true]
  intro x hx
  obtain ⟨j, hj, rfl⟩ := List.getElem_of_mem hx
  have hj' : j < s.size := by rw [← bytesOf_length]; exact hj
  have := h j hj'
  rwa [← bt_get s j hj] at this
theorem all_bt_false {s : ByteArray} {p : Int → Bool} {i : Nat} (hi : i < s.size) (h : p (bt s i) = false) : (bytesOf s).all p = false := by
  rw [← Bool.not_eq_true, List.all_eq_true]
  intro ha
  have hi' : i < (bytesOf s).length := by rw [bytesOf_length]; exact hi
  have := ha _ (List.getElem_mem hi')
  rw [bt_get s i hi', h] at this
  cases this
/-- A byte of a term of a kind, at its place. -/
def goodK (k : Int) (j : Nat) (c : Int) : Bool := predK k c && (k != 1 || (decide (j ≠ 0) || isLetter c))
theorem okS_true {k : Int} {s : ByteArray} (h0 : s.size ≠ 0) (h : ∀ j : Nat, j < s.size → goodK k j (bt s j) = true) : okS k s = true := by
  have h1 : (bytesOf s).all (predK k) = true := all_bt_true fun j hj => by
    have := h j hj
    unfold goodK at this
    simp only [Bool.and_eq_true] at this
    exact this.1
  have h2 := h 0 (by omega)
  unfold goodK at h2
  simp only [Bool.and_eq_true] at h2
  unfold okS
  rw [h1]
  have e : (s.size != 0) = true := by simpa using h0
  rw [e]
  simpa using h2.2
theorem okS_false {k : Int} {s : ByteArray} {i : Nat} (hi : i < s.size) (h : goodK k i (bt s i) = false) : okS k s = false := by
  unfold goodK at h
  unfold okS
  cases hp : predK k (bt s i) with
  | false => rw [all_bt_false hi hp]; rfl
  | true =>
    rw [hp] at h
    simp only [Bool.true_and, Bool.or_eq_false_iff, decide_eq_false_iff_not, Decidable.not_not] at h
    obtain ⟨h1, h2, h3⟩ := h
    subst h2
    rw [h1]
    have e : isLetter (bt s 0) = false := h3
    rw [e]
    simp
theorem okS_empty {k : Int} {s : ByteArray} (h : s.size = 0) (h1 : 1 ≤ k) (h3 : k ≤ 3) : okS k s = decide (k = 3) := by
  unfold okS
  rw [bytesOf_nil h]
  by_cases e : k = 3
  · subst e; simp [h]
  · have e' : (k == 3) = false := by simpa using e
    rw [e', h, decide_eq_false e]
    simp
theorem rletter_calls (c : Int) (w : World) : Calls Tryz.prog 126 #[.int .u8 c] w fun e w' => e = .returned (.bool (isLetter c)) ∧ w' = w := by
  by_cases h1 : 97 ≤ c
  · have h1b : decide (97 ≤ c) = true := decide_eq_true h1
    go_enter Tryz.func126, Tryz.ntmps126
    go_wp2
    go_ret
    exact ⟨by simp [isLetter, h1], rfl⟩
  · have h1b : decide (97 ≤ c) = false := decide_eq_false h1
    go_enter Tryz.func126, Tryz.ntmps126
    go_wp2
    go_ret
    exact ⟨by simp [isLetter]; omega, rfl⟩
theorem rdigit_calls (c : Int) (w : World) : Calls Tryz.prog 127 #[.int .u8 c] w fun e w' => e = .returned (.bool (isDigit c)) ∧ w' = w := by
  by_cases h1 : 48 ≤ c
  · have h1b : decide (48 ≤ c) = true := decide_eq_true h1
    go_enter Tryz.func127, Tryz.ntmps127
    go_wp2
    go_ret
    exact ⟨by simp [isDigit, h1], rfl⟩
  · have h1b : decide (48 ≤ c) = false := decide_eq_false h1
    go_enter Tryz.func127, Tryz.ntmps127
    go_wp2
    go_ret
    exact ⟨by simp [isDigit]; omega, rfl⟩
def lettersR (s : ByteArray) (n : Int) : Bool := decide (0 < s.size) && decide ((s.size : Int) ≤ n) && (bytesOf s).all isLetter
set_option maxHeartbeats 4000000 in
set_option maxRecDepth 100000 in
theorem rletters_calls (s : ByteArray) (n : Int) (w : World) (hb : n ≤ 1000) : Calls Tryz.prog 84 #[.string s, .int .i64 n] w fun e w' => e = .returned (.bool (lettersR s n)) ∧ w' = w := by
  unfold lettersR
  by_cases h0 : s.size = 0
  · have e0 : (s.toList == ([] : List UInt8)) = true := beq_iff_eq.mpr ((size_nil s).2 h0)
    go_enter Tryz.func84, Tryz.ntmps84
    go_wp2
    go_ret
    exact ⟨by simp [h0], rfl⟩
  have e0 : (s.toList == ([] : List UInt8)) = false := beq_eq_false_iff_ne.mpr (fun h => h0 ((size_nil s).1 h))
  by_cases hn : n < (s.size : Int)
  · have e1 : decide (n < (s.size : Int)) = true := decide_eq_true hn
    go_enter Tryz.func84, Tryz.ntmps84
    go_wp2
    go_ret
    exact ⟨by simp; intro _ h; omega, rfl⟩
  have e1 : decide (n < (s.size : Int)) = false := decide_eq_false hn
  have hs : s.size ≤ 9223372036854775807 := by omega
  have H0 := Aside0.mk h0; have HN := Aside0.mk hn; have HS := Aside0.mk hs; clear h0 hn hs hb
  go_enter Tryz.func84, Tryz.ntmps84
  go_wp2
  clear e0 e1
  go_loopg [5, 6] s.size (fun gg s5 _ wr => ∃ i : Nat, i ≤ s.size ∧ s.size - i ≤ gg ∧ s5 = .int .i64 (i : Int) ∧ wr = w ∧ Aside0 (∀ j : Nat, j < i → isLetter (bt s j) = true))
  case atStart => exact ⟨0, Nat.zero_le _, by omega, rfl, rfl, ⟨fun j h => absurd h (Nat.not_lt_zero _)⟩⟩
  case round =>
    obtain ⟨i, hi, hg, rfl, rfl, HA⟩ := hrel
    by_cases hlt : i < s.size
    · have c1 : decide ((i : Int) < (s.size : Int)) = true := decide_eq_true (by omega)
      have c2 : decide ((0 : Int) ≤ (i : Int)) = true := decide_eq_true (by omega)
      have c3 : (i : Int) < (s.size : Int) := by omega
      have c4 : (i : Int) < 9223372036854775807 := by have := HS.out; omega
      have HLT := Aside0.mk hlt
      have hbt : ((s[i]'hlt).toNat : Int) = bt s i := bt_at s i hlt
      have hl := rletter_calls ((s[i]'hlt).toNat : Int) wr
      have hle : isLetter ((s[i]'hlt).toNat : Int) = isLetter (bt s i) := by rw [hbt]
      rw [hle] at hl
      clear hle hbt
      cases hc : isLetter (bt s i)
      · rw [hc] at hl
        go_wp2_with (go_at_call 126; refine hl.mono ?_; rintro e w' ⟨rfl, rfl⟩)
        go_ret
        refine ⟨?_, rfl⟩
        rw [all_bt_false HLT.out hc]; simp
      · rw [hc] at hl
        have HC := Aside0.mk hc; clear hc
        go_wp2_with (go_at_call 126; refine hl.mono ?_; rintro e w' ⟨rfl, rfl⟩)
        go_roundg (s.size - (i + 1))
        case measure => have := HLT.out; omega
        case rel => exact ⟨i + 1, HLT.out, by omega, by have := HLT.out; have := HS.out; go_num, rfl, ⟨upto_succ HA.out HC.out⟩⟩
    · obtain rfl : i = s.size := by omega
      have c1 : decide ((s.size : Int) < (s.size : Int)) = false := decide_eq_false (by omega)
      go_wp2
      go_ret
      refine ⟨?_, rfl⟩
      have h1 := H0.out; have h2 := HN.out
      rw [all_bt_true HA.out]; simp; omega
set_option maxHeartbeats 4000000 in
set_option maxRecDepth 100000 in
theorem rright1_calls (s : ByteArray) (w : World) (h0 : s.size ≠ 0) (hs : s.size ≤ 9223372036854775807) : Calls Tryz.prog 83 #[.int .i64 1, .string s] w fun e w' => e = .returned (.bool (okS 1 s)) ∧ w' = w := by
  have e0 : (s.toList == ([] : List UInt8)) = false := beq_eq_false_iff_ne.mpr (fun h => h0 ((size_nil s).1 h))
  have H0 := Aside0.mk h0; have HS := Aside0.mk hs; clear h0 hs
  go_enter Tryz.func83, Tryz.ntmps83
  go_wp2
  clear e0
  go_loopg [5, 6, 7, 8] s.size (fun gg s5 _ _ _ wr => ∃ i : Nat, i ≤ s.size ∧ s.size - i ≤ gg ∧ s5 = .int .i64 (i : Int) ∧ wr = w ∧ Aside0 (∀ j : Nat, j < i → goodK 1 j (bt s j) = true))
  case atStart => exact ⟨0, Nat.zero_le _, by omega, rfl, rfl, ⟨fun j h => absurd h (Nat.not_lt_zero _)⟩⟩
  case round =>
    obtain ⟨i, hi, hg, rfl, rfl, HA⟩ := hrel
    by_cases hlt : i < s.size
    · have c1 : decide ((i : Int) < (s.size : Int)) = true := decide_eq_true (by omega)
      have c2 : decide ((0 : Int) ≤ (i : Int)) = true := decide_eq_true (by omega)
      have c3 : (i : Int) < (s.size : Int) := by omega
      have c4 : (i : Int) < 9223372036854775807 := by have := HS.out; omega
      have HLT := Aside0.mk hlt
      have hbt : ((s[i]'hlt).toNat : Int) = bt s i := bt_at s i hlt
      obtain ⟨x, hx⟩ : ∃ x, ((s[i]'hlt).toNat : Int) = x := ⟨_, rfl⟩
      have hl := rletter_calls x wr
      have hd := rdigit_calls x wr
      have HBT : Aside0 (bt s i = x) := ⟨by rw [← hbt, hx]⟩
      clear hbt
      cases ha : isLetter x <;> rw [ha] at hl <;> have HAA := Aside0.mk ha <;> clear ha
      · by_cases hi0 : i = 0
        · subst hi0
          cases hdd : isDigit x <;> rw [hdd] at hd <;> have HDD := Aside0.mk hdd <;> clear hdd
          all_goals
            go_wp2_with (first | (go_at_call 126; refine hl.mono ?_; rintro e w' ⟨rfl, rfl⟩) | (go_at_call 127; refine hd.mono ?_; rintro e w' ⟨rfl, rfl⟩))
            go_ret
            exact ⟨by rw [okS_false HLT.out (by rw [HBT.out]; simp [goodK, predK, isName, isAnon, isText, HAA.out])] <;> rfl, rfl⟩
        · have i0 : ((i : Int) == 0) = false := by simpa using hi0
          have i1 : (i == 0) = false := by simpa using hi0
          have HI0 := Aside0.mk hi0
          clear hi0
          cases hdd : isDigit x <;> rw [hdd] at hd <;> have HDD := Aside0.mk hdd <;> clear hdd
          · skip
            by_cases h58 : x = 58
            · subst h58
              go_wp2_with (first | (go_at_call 126; refine hl.mono ?_; rintro e w' ⟨rfl, rfl⟩) | (go_at_call 127; refine hd.mono ?_; rintro e w' ⟨rfl, rfl⟩))
              go_roundg (s.size - (i + 1))
              case measure => have := HLT.out; omega
              case rel => exact ⟨i + 1, HLT.out, by omega, by have := HLT.out; have := HS.out; go_num, rfl, ⟨upto_succ HA.out (by rw [HBT.out]; simp [goodK, predK, isName, isAnon, isText, HAA.out, HDD.out, HI0.out])⟩⟩
            have b58 : (x != 58) = true := by rw [bne_iff_ne]; exact h58
            have N58 := Aside0.mk h58; clear h58
            by_cases h47 : x = 47
            · subst h47
              go_wp2_with (first | (go_at_call 126; refine hl.mono ?_; rintro e w' ⟨rfl, rfl⟩) | (go_at_call 127; refine hd.mono ?_; rintro e w' ⟨rfl, rfl⟩))
              go_roundg (s.size - (i + 1))
              case measure => have := HLT.out; omega
              case rel => exact ⟨i + 1, HLT.out, by omega, by have := HLT.out; have := HS.out; go_num, rfl, ⟨upto_succ HA.out (by rw [HBT.out]; simp [goodK, predK, isName, isAnon, isText, HAA.out, HDD.out, HI0.out])⟩⟩
            have b47 : (x != 47) = true := by rw [bne_iff_ne]; exact h47
            have N47 := Aside0.mk h47; clear h47
            by_cases h46 : x = 46
            · subst h46
              go_wp2_with (first | (go_at_call 126; refine hl.mono ?_; rintro e w' ⟨rfl, rfl⟩) | (go_at_call 127; refine hd.mono ?_; rintro e w' ⟨rfl, rfl⟩))
              go_roundg (s.size - (i + 1))
              case measure => have := HLT.out; omega
              case rel => exact ⟨i + 1, HLT.out, by omega, by have := HLT.out; have := HS.out; go_num, rfl, ⟨upto_succ HA.out (by rw [HBT.out]; simp [goodK, predK, isName, isAnon, isText, HAA.out, HDD.out, HI0.out])⟩⟩
            have b46 : (x != 46) = true := by rw [bne_iff_ne]; exact h46
            have N46 := Aside0.mk h46; clear h46
            go_wp2_with (first | (go_at_call 126; refine hl.mono ?_; rintro e w' ⟨rfl, rfl⟩) | (go_at_call 127; refine hd.mono ?_; rintro e w' ⟨rfl, rfl⟩))
            go_ret
            exact ⟨by rw [okS_false HLT.out (by rw [HBT.out]; simp [goodK, predK, isName, isAnon, isText, HAA.out, HDD.out, N58.out, N47.out, N46.out])] <;> rfl, rfl⟩
          ·
            go_wp2_with (first | (go_at_call 126; refine hl.mono ?_; rintro e w' ⟨rfl, rfl⟩) | (go_at_call 127; refine hd.mono ?_; rintro e w' ⟨rfl, rfl⟩))
            go_roundg (s.size - (i + 1))
            case measure => have := HLT.out; omega
            case rel => exact ⟨i + 1, HLT.out, by omega, by have := HLT.out; have := HS.out; go_num, rfl, ⟨upto_succ HA.out (by rw [HBT.out]; simp [goodK, predK, isName, isAnon, isText, HAA.out, HDD.out, HI0.out])⟩⟩
      · cases hdd : isDigit x <;> rw [hdd] at hd <;> clear hdd
        all_goals
          go_wp2_with (first | (go_at_call 126; refine hl.mono ?_; rintro e w' ⟨rfl, rfl⟩) | (go_at_call 127; refine hd.mono ?_; rintro e w' ⟨rfl, rfl⟩))
          go_roundg (s.size - (i + 1))
          case measure => have := HLT.out; omega
          case rel => exact ⟨i + 1, HLT.out, by omega, by have := HLT.out; have := HS.out; go_num, rfl, ⟨upto_succ HA.out (by rw [HBT.out]; simp [goodK, predK, isName, isAnon, isText, HAA.out])⟩⟩
    · obtain rfl : i = s.size := by omega
      have c1 : decide ((s.size : Int) < (s.size : Int)) = false := decide_eq_false (by omega)
      go_wp2
      go_ret
      exact ⟨by rw [okS_true H0.out HA.out] <;> rfl, rfl⟩
set_option maxHeartbeats 4000000 in
set_option maxRecDepth 100000 in
theorem rright2_calls (s : ByteArray) (w : World) (h0 : s.size ≠ 0) (hs : s.size ≤ 9223372036854775807) : Calls Tryz.prog 83 #[.int .i64 2, .string s] w fun e w' => e = .returned (.bool (okS 2 s)) ∧ w' = w := by
  have e0 : (s.toList == ([] : List UInt8)) = false := beq_eq_false_iff_ne.mpr (fun h => h0 ((size_nil s).1 h))
  have H0 := Aside0.mk h0; have HS := Aside0.mk hs; clear h0 hs
  go_enter Tryz.func83, Tryz.ntmps83
  go_wp2
  clear e0
  go_loopg [5, 6, 7, 8] s.size (fun gg s5 _ _ _ wr => ∃ i : Nat, i ≤ s.size ∧ s.size - i ≤ gg ∧ s5 = .int .i64 (i : Int) ∧ wr = w ∧ Aside0 (∀ j : Nat, j < i → goodK 2 j (bt s j) = true))
  case atStart => exact ⟨0, Nat.zero_le _, by omega, rfl, rfl, ⟨fun j h => absurd h (Nat.not_lt_zero _)⟩⟩
  case round =>
    obtain ⟨i, hi, hg, rfl, rfl, HA⟩ := hrel
    by_cases hlt : i < s.size
    · have c1 : decide ((i : Int) < (s.size : Int)) = true := decide_eq_true (by omega)
      have c2 : decide ((0 : Int) ≤ (i : Int)) = true := decide_eq_true (by omega)
      have c3 : (i : Int) < (s.size : Int) := by omega
      have c4 : (i : Int) < 9223372036854775807 := by have := HS.out; omega
      have HLT := Aside0.mk hlt
      have hbt : ((s[i]'hlt).toNat : Int) = bt s i := bt_at s i hlt
      obtain ⟨x, hx⟩ : ∃ x, ((s[i]'hlt).toNat : Int) = x := ⟨_, rfl⟩
      have hl := rletter_calls x wr
      have hd := rdigit_calls x wr
      have HBT : Aside0 (bt s i = x) := ⟨by rw [← hbt, hx]⟩
      clear hbt
      cases ha : isLetter x <;> rw [ha] at hl <;> have HAA := Aside0.mk ha <;> clear ha
      · cases hdd : isDigit x <;> rw [hdd] at hd <;> have HDD := Aside0.mk hdd <;> clear hdd
        ·
          go_wp2_with (first | (go_at_call 126; refine hl.mono ?_; rintro e w' ⟨rfl, rfl⟩) | (go_at_call 127; refine hd.mono ?_; rintro e w' ⟨rfl, rfl⟩))
          go_ret
          exact ⟨by rw [okS_false HLT.out (by rw [HBT.out]; simp [goodK, predK, isName, isAnon, isText, HAA.out, HDD.out])] <;> rfl, rfl⟩
        ·
          go_wp2_with (first | (go_at_call 126; refine hl.mono ?_; rintro e w' ⟨rfl, rfl⟩) | (go_at_call 127; refine hd.mono ?_; rintro e w' ⟨rfl, rfl⟩))
          go_roundg (s.size - (i + 1))
          case measure => have := HLT.out; omega
          case rel => exact ⟨i + 1, HLT.out, by omega, by have := HLT.out; have := HS.out; go_num, rfl, ⟨upto_succ HA.out (by rw [HBT.out]; simp [goodK, predK, isName, isAnon, isText, HAA.out, HDD.out])⟩⟩
      · cases hdd : isDigit x <;> rw [hdd] at hd <;> clear hdd
        all_goals
          go_wp2_with (first | (go_at_call 126; refine hl.mono ?_; rintro e w' ⟨rfl, rfl⟩) | (go_at_call 127; refine hd.mono ?_; rintro e w' ⟨rfl, rfl⟩))
          go_roundg (s.size - (i + 1))
          case measure => have := HLT.out; omega
          case rel => exact ⟨i + 1, HLT.out, by omega, by have := HLT.out; have := HS.out; go_num, rfl, ⟨upto_succ HA.out (by rw [HBT.out]; simp [goodK, predK, isName, isAnon, isText, HAA.out])⟩⟩
    · obtain rfl : i = s.size := by omega
      have c1 : decide ((s.size : Int) < (s.size : Int)) = false := decide_eq_false (by omega)
      go_wp2
      go_ret
      exact ⟨by rw [okS_true H0.out HA.out] <;> rfl, rfl⟩
set_option maxHeartbeats 4000000 in
set_option maxRecDepth 100000 in
theorem rright3_calls (s : ByteArray) (w : World) (h0 : s.size ≠ 0) (hs : s.size ≤ 9223372036854775807) : Calls Tryz.prog 83 #[.int .i64 3, .string s] w fun e w' => e = .returned (.bool (okS 3 s)) ∧ w' = w := by
  have e0 : (s.toList == ([] : List UInt8)) = false := beq_eq_false_iff_ne.mpr (fun h => h0 ((size_nil s).1 h))
  have H0 := Aside0.mk h0; have HS := Aside0.mk hs; clear h0 hs
  go_enter Tryz.func83, Tryz.ntmps83
  go_wp2
  clear e0
  go_loopg [5, 6, 7, 8] s.size (fun gg s5 _ _ _ wr => ∃ i : Nat, i ≤ s.size ∧ s.size - i ≤ gg ∧ s5 = .int .i64 (i : Int) ∧ wr = w ∧ Aside0 (∀ j : Nat, j < i → goodK 3 j (bt s j) = true))
  case atStart => exact ⟨0, Nat.zero_le _, by omega, rfl, rfl, ⟨fun j h => absurd h (Nat.not_lt_zero _)⟩⟩
  case round =>
    obtain ⟨i, hi, hg, rfl, rfl, HA⟩ := hrel
    by_cases hlt : i < s.size
    · have c1 : decide ((i : Int) < (s.size : Int)) = true := decide_eq_true (by omega)
      have c2 : decide ((0 : Int) ≤ (i : Int)) = true := decide_eq_true (by omega)
      have c3 : (i : Int) < (s.size : Int) := by omega
      have c4 : (i : Int) < 9223372036854775807 := by have := HS.out; omega
      have HLT := Aside0.mk hlt
      have hbt : ((s[i]'hlt).toNat : Int) = bt s i := bt_at s i hlt
      obtain ⟨x, hx⟩ : ∃ x, ((s[i]'hlt).toNat : Int) = x := ⟨_, rfl⟩
      have hl := rletter_calls x wr
      have hd := rdigit_calls x wr
      have HBT : Aside0 (bt s i = x) := ⟨by rw [← hbt, hx]⟩
      clear hbt
      generalize isLetter x = bl at hl
      generalize isDigit x = bd at hd
      by_cases h32 : x < 32
      · have d32 : decide (x < 32) = true := decide_eq_true h32
        have H32 := Aside0.mk h32; clear h32
        cases bl <;> cases bd
        all_goals
          go_wp2_with (first | (go_at_call 126; refine hl.mono ?_; rintro e w' ⟨rfl, rfl⟩) | (go_at_call 127; refine hd.mono ?_; rintro e w' ⟨rfl, rfl⟩))
          go_ret
          exact ⟨by rw [okS_false HLT.out (by rw [HBT.out]; simp [goodK, predK, isName, isAnon, isText, show ¬ 32 ≤ x by have := H32.out; omega])] <;> rfl, rfl⟩
      have d32 : decide (x < 32) = false := decide_eq_false h32
      by_cases h126 : 126 < x
      · have d126 : decide (126 < x) = true := decide_eq_true h126
        have H32 := Aside0.mk h32; have H126 := Aside0.mk h126; clear h32 h126
        cases bl <;> cases bd
        all_goals
          go_wp2_with (first | (go_at_call 126; refine hl.mono ?_; rintro e w' ⟨rfl, rfl⟩) | (go_at_call 127; refine hd.mono ?_; rintro e w' ⟨rfl, rfl⟩))
          go_ret
          exact ⟨by rw [okS_false HLT.out (by rw [HBT.out]; simp [goodK, predK, isName, isAnon, isText, show ¬ x ≤ 126 by have := H126.out; omega])] <;> rfl, rfl⟩
      have d126 : decide (126 < x) = false := decide_eq_false h126
      have H32 := Aside0.mk h32; have H126 := Aside0.mk h126; clear h32 h126
      cases bl <;> cases bd
      all_goals
        go_wp2_with (first | (go_at_call 126; refine hl.mono ?_; rintro e w' ⟨rfl, rfl⟩) | (go_at_call 127; refine hd.mono ?_; rintro e w' ⟨rfl, rfl⟩))
        go_roundg (s.size - (i + 1))
        case measure => have := HLT.out; omega
        case rel => exact ⟨i + 1, HLT.out, by omega, by have := HLT.out; have := HS.out; go_num, rfl, ⟨upto_succ HA.out (by rw [HBT.out]; simp [goodK, predK, isName, isAnon, isText, show 32 ≤ x by have := H32.out; omega, show x ≤ 126 by have := H126.out; omega])⟩⟩
    · obtain rfl : i = s.size := by omega
      have c1 : decide ((s.size : Int) < (s.size : Int)) = false := decide_eq_false (by omega)
      go_wp2
      go_ret
      exact ⟨by rw [okS_true H0.out HA.out] <;> rfl, rfl⟩
set_option maxRecDepth 100000 in
theorem rright_calls (k : Int) (s : ByteArray) (w : World) (h1 : 1 ≤ k) (h3 : k ≤ 3) (hs : s.size ≤ 9223372036854775807) : Calls Tryz.prog 83 #[.int .i64 k, .string s] w fun e w' => e = .returned (.bool (okS k s)) ∧ w' = w := by
  by_cases h0 : s.size = 0
  · have e0 : (s.toList == ([] : List UInt8)) = true := beq_iff_eq.mpr ((size_nil s).2 h0)
    rw [okS_empty h0 h1 h3]
    clear h0 hs
    go_enter Tryz.func83, Tryz.ntmps83
    go_wp2
    go_ret
    exact ⟨by first | rfl | simp, rfl⟩
  · obtain rfl | rfl | rfl : k = 1 ∨ k = 2 ∨ k = 3 := by omega
    · exact rright1_calls s w h0 hs
    · exact rright2_calls s w h0 hs
    · exact rright3_calls s w h0 hs
end Go.Proofs.YtdjamphmndbmjaaGreatDoor.M

/- strataref1's Compare, Term, Triple, Order: the order and the faults of package term and triple (printed by wip/gen_r2.py). -/
namespace Go.Proofs.YtdjamphmndbmjaaGreatDoor.M
open Go.RowKit Go.Proofs.YtdjamphmndbmjaaGreatDoorW.PrintWords Go.Proofs.YtdjamphmndbmjaaGreatDoorW.PrintLast Go.Proofs.YtdjamphmndbmjaaGreatDoorW.PrintMore
set_option linter.unusedVariables false
set_option linter.unusedSimpArgs false

theorem bytesLess_eq : ∀ (a b : List UInt8), Op.bytesLess a b = decide (Lib.compareBytes a b < 0)
  | [], [] => rfl
  | [], _ :: _ => rfl
  | _ :: _, [] => rfl
  | x :: a, y :: b => by
    have ih := bytesLess_eq a b
    rw [Bool.eq_iff_iff, decide_eq_true_iff]
    rw [Bool.eq_iff_iff, decide_eq_true_iff] at ih
    unfold Op.bytesLess
    simp only [Lib.compareBytes, Bool.or_eq_true, Bool.and_eq_true, decide_eq_true_eq, beq_iff_eq]
    by_cases h : x < y
    · rw [if_pos h]; simp [h]
    · rw [if_neg h]
      by_cases h2 : y < x
      · rw [if_pos h2]
        have : ¬ x = y := by rintro rfl; exact h h2
        simp [h, this]
      · rw [if_neg h2]
        have : x = y := by
          apply UInt8.toNat_inj.1
          rw [UInt8.lt_iff_toNat_lt] at h h2
          omega
        subst this
        rw [← ih]
        simp [h]
theorem less_bcmp (a b : ByteArray) : Op.bytesLess a.toList b.toList = decide (bcmp a b < 0) := by
  rw [bytesLess_eq, ByteArray.toList_eq, ByteArray.toList_eq]
  rfl
theorem toList_same (a b : ByteArray) : (a.toList == b.toList) = decide (a = b) := by
  rw [Bool.eq_iff_iff, beq_iff_eq, decide_eq_true_iff, ByteArray.toList_eq, ByteArray.toList_eq]
  exact ⟨bytes_inj', fun h => by rw [h]⟩
theorem same_bcmp (a b : ByteArray) : (a.toList == b.toList) = decide (bcmp a b = 0) := by
  rw [toList_same, Bool.eq_iff_iff, decide_eq_true_iff, decide_eq_true_iff]
  exact (lawB.zero a b).symm
theorem bcmp_one (a b : ByteArray) (h : ¬ bcmp a b < 0) (h0 : ¬ bcmp a b = 0) : bcmp a b = 1 := by
  have : ∀ x y : List UInt8, Lib.compareBytes x y = -1 ∨ Lib.compareBytes x y = 0 ∨ Lib.compareBytes x y = 1 := by
    intro x
    induction x with
    | nil => intro y; cases y <;> simp [Lib.compareBytes]
    | cons c x ih =>
      intro y
      cases y with
      | nil => simp [Lib.compareBytes]
      | cons d y =>
        simp only [Lib.compareBytes]
        split
        · simp
        · split
          · simp
          · exact ih y
  have h1 := this a.data.toList b.data.toList
  unfold bcmp at h h0 ⊢
  omega
theorem bcmp_neg (a b : ByteArray) (h : bcmp a b < 0) : bcmp a b = -1 := by
  have h1 : bcmp b a = 1 := bcmp_one b a (by rw [lawB.anti a b]; omega) (by rw [lawB.anti a b]; omega)
  rw [lawB.anti a b] at h1
  omega
set_option maxHeartbeats 4000000 in
set_option maxRecDepth 100000 in
theorem rcompare_calls (x y : S23) (w : World) : Calls Tryz.prog 43 #[.agg #[.int .i64 x.f0, .string x.f1, .string x.f2], .agg #[.int .i64 y.f0, .string y.f1, .string y.f2]] w fun e w' => e = .returned (.int .i64 (cmpT x y)) ∧ GBelow w.heap.size w w' := by
  have l1 := less_bcmp x.f1 y.f1; have l2 := less_bcmp x.f2 y.f2; have s1 := same_bcmp x.f1 y.f1; have s2 := same_bcmp x.f2 y.f2
  unfold cmpT cmpI orI
  by_cases h0 : x.f0 = y.f0
  · have e0 : (x.f0 != y.f0) = false := by rw [h0]; simp
    have hz : (if x.f0 < y.f0 then (-1 : Int) else if x.f0 > y.f0 then 1 else 0) = 0 := by rw [if_neg (by omega), if_neg (by omega)]
    rw [if_pos hz]
    clear hz h0
    by_cases h1 : bcmp x.f1 y.f1 = 0
    · rw [if_pos h1]
      rw [decide_eq_true h1] at s1
      clear h1 l1
      by_cases h2 : bcmp x.f2 y.f2 < 0
      · rw [decide_eq_true h2] at l2
        have hv := bcmp_neg _ _ h2
        rw [hv]
        clear h2 hv s2
        go_enter Tryz.func43, Tryz.ntmps43
        go_wp2
        go_ret
        exact ⟨by rfl, (by repeat (first | exact GBelow.refl _ _ | refine gbelow_alloc ?_ _ | refine pw_gbelow_drewN ?_ _ | refine gbelow_drew1 ?_))⟩
      rw [decide_eq_false h2] at l2
      by_cases h3 : bcmp x.f2 y.f2 = 0
      · rw [decide_eq_true h3] at s2
        rw [h3]
        clear h2 h3
        go_enter Tryz.func43, Tryz.ntmps43
        go_wp2
        go_ret
        exact ⟨by rfl, (by repeat (first | exact GBelow.refl _ _ | refine gbelow_alloc ?_ _ | refine pw_gbelow_drewN ?_ _ | refine gbelow_drew1 ?_))⟩
      rw [decide_eq_false h3] at s2
      have hv := bcmp_one _ _ h2 h3
      rw [hv]
      clear h2 h3 hv
      go_enter Tryz.func43, Tryz.ntmps43
      go_wp2
      go_ret
      exact ⟨by rfl, (by repeat (first | exact GBelow.refl _ _ | refine gbelow_alloc ?_ _ | refine pw_gbelow_drewN ?_ _ | refine gbelow_drew1 ?_))⟩
    rw [if_neg h1]
    rw [decide_eq_false h1] at s1
    by_cases h2 : bcmp x.f1 y.f1 < 0
    · rw [decide_eq_true h2] at l1
      have hv := bcmp_neg _ _ h2
      rw [hv]
      clear h2 hv h1 s2 l2
      go_enter Tryz.func43, Tryz.ntmps43
      go_wp2
      go_ret
      exact ⟨by rfl, (by repeat (first | exact GBelow.refl _ _ | refine gbelow_alloc ?_ _ | refine pw_gbelow_drewN ?_ _ | refine gbelow_drew1 ?_))⟩
    rw [decide_eq_false h2] at l1
    have hv := bcmp_one _ _ h2 h1
    rw [hv]
    clear h2 h1 hv s2 l2
    go_enter Tryz.func43, Tryz.ntmps43
    go_wp2
    go_ret
    exact ⟨by rfl, (by repeat (first | exact GBelow.refl _ _ | refine gbelow_alloc ?_ _ | refine pw_gbelow_drewN ?_ _ | refine gbelow_drew1 ?_))⟩
  clear l1 l2 s1 s2
  have e0 : (x.f0 != y.f0) = true := by simpa using h0
  by_cases h1 : x.f0 < y.f0
  · have d1 : decide (x.f0 < y.f0) = true := decide_eq_true h1
    rw [if_pos h1, if_neg (by decide)]
    clear h0
    go_enter Tryz.func43, Tryz.ntmps43
    go_wp2
    go_ret
    exact ⟨by rfl, (by repeat (first | exact GBelow.refl _ _ | refine gbelow_alloc ?_ _ | refine pw_gbelow_drewN ?_ _ | refine gbelow_drew1 ?_))⟩
  have d1 : decide (x.f0 < y.f0) = false := decide_eq_false h1
  rw [if_neg h1, if_pos (show x.f0 > y.f0 by omega), if_neg (by decide)]
  clear h0
  go_enter Tryz.func43, Tryz.ntmps43
  go_wp2
  go_ret
  exact ⟨by rfl, (by repeat (first | exact GBelow.refl _ _ | refine gbelow_alloc ?_ _ | refine pw_gbelow_drewN ?_ _ | refine gbelow_drew1 ?_))⟩
set_option maxHeartbeats 4000000 in
set_option maxRecDepth 100000 in
theorem rterm_calls (t : S23) (w : World) : Calls Tryz.prog 23 #[.agg #[.int .i64 t.f0, .string t.f1, .string t.f2]] w fun e w' => e = .returned (.int .i64 (codeE (chkT t))) ∧ GBelow w.heap.size w w' := by
  unfold chkT
  by_cases h1 : t.f0 < 1
  · have d1 : decide (t.f0 < 1) = true := decide_eq_true h1
    rw [if_neg (show ¬ (1 ≤ t.f0 ∧ t.f0 ≤ 3) by omega)]
    go_enter Tryz.func23, Tryz.ntmps23
    go_wp2
    go_ret
    exact ⟨by first | rfl | simp [codeE], (by repeat (first | exact GBelow.refl _ _ | refine gbelow_alloc ?_ _ | refine pw_gbelow_drewN ?_ _ | refine gbelow_drew1 ?_))⟩
  have d1 : decide (t.f0 < 1) = false := decide_eq_false h1
  by_cases h3 : 3 < t.f0
  · have d3 : decide (3 < t.f0) = true := decide_eq_true h3
    rw [if_neg (show ¬ (1 ≤ t.f0 ∧ t.f0 ≤ 3) by omega)]
    go_enter Tryz.func23, Tryz.ntmps23
    go_wp2
    go_ret
    exact ⟨by first | rfl | simp [codeE], (by repeat (first | exact GBelow.refl _ _ | refine gbelow_alloc ?_ _ | refine pw_gbelow_drewN ?_ _ | refine gbelow_drew1 ?_))⟩
  have d3 : decide (3 < t.f0) = false := decide_eq_false h3
  rw [if_pos (show 1 ≤ t.f0 ∧ t.f0 ≤ 3 by omega)]
  by_cases hs : t.f1.size > 24
  · have ds : (t.f1.size : Int) > 24 := by omega
    rw [if_pos hs]
    go_enter Tryz.func23, Tryz.ntmps23
    go_wp2
    go_ret
    exact ⟨by first | rfl | simp [codeE], (by repeat (first | exact GBelow.refl _ _ | refine gbelow_alloc ?_ _ | refine pw_gbelow_drewN ?_ _ | refine gbelow_drew1 ?_))⟩
  have ds : ¬ (t.f1.size : Int) > 24 := by omega
  rw [if_neg hs]
  have hr := fun W => rright_calls t.f0 t.f1 W (by omega) (by omega) (by omega)
  have hlt := fun W => rletters_calls t.f2 2 W (by omega)
  cases ho : okS t.f0 t.f1
  · rw [ho] at hr
    rw [if_neg (by decide)]
    clear ho hs
    go_enter Tryz.func23, Tryz.ntmps23
    go_wp2_with (first | (go_at_call 83; refine (hr _).mono ?_; rintro e w' ⟨rfl, rfl⟩) | (go_at_call 84; refine (hlt _).mono ?_; rintro e w' ⟨rfl, rfl⟩))
    go_ret
    exact ⟨by first | rfl | simp [codeE], (by repeat (first | exact GBelow.refl _ _ | refine gbelow_alloc ?_ _ | refine pw_gbelow_drewN ?_ _ | refine gbelow_drew1 ?_))⟩
  rw [ho] at hr
  rw [if_pos rfl]
  by_cases h0 : t.f2.size = 0
  · have e0 : (t.f2.toList == ([] : List UInt8)) = true := beq_iff_eq.mpr ((size_nil _).2 h0)
    rw [if_pos h0]
    clear ho hs h0
    go_enter Tryz.func23, Tryz.ntmps23
    go_wp2_with (first | (go_at_call 83; refine (hr _).mono ?_; rintro e w' ⟨rfl, rfl⟩) | (go_at_call 84; refine (hlt _).mono ?_; rintro e w' ⟨rfl, rfl⟩))
    go_ret
    exact ⟨by first | rfl | simp [codeE], (by repeat (first | exact GBelow.refl _ _ | refine gbelow_alloc ?_ _ | refine pw_gbelow_drewN ?_ _ | refine gbelow_drew1 ?_))⟩
  have e0 : (t.f2.toList == ([] : List UInt8)) = false := beq_eq_false_iff_ne.mpr (fun h => h0 ((size_nil _).1 h))
  rw [if_neg h0]
  have HL : lettersR t.f2 2 = (decide (t.f2.size ≤ 2) && (bytesOf t.f2).all isLetter) := by unfold lettersR; rw [decide_eq_true (show 0 < t.f2.size by omega), Bool.true_and]; congr 1; rw [Bool.eq_iff_iff, decide_eq_true_iff, decide_eq_true_iff]; omega
  by_cases h33 : t.f0 = 3
  · by_cases h2 : t.f2.size = 2
    · cases hal : (bytesOf t.f2).all isLetter
      · rw [HL, hal, h2] at hlt
        rw [if_neg (fun h => absurd (h.2.2) (by decide))]
        have e3 : (t.f0 != 3) = false := by rw [h33]; rfl
        have e2 : ((t.f2.size : Int) != 2) = false := by rw [h2]; rfl
        have e2' : (t.f2.size != 2) = false := by rw [h2]; rfl
        simp only [Nat.le_refl, decide_true, Bool.true_and] at hlt
        clear ho hs h0 h33 h2 hal HL
        go_enter Tryz.func23, Tryz.ntmps23
        go_wp2_with (first | (go_at_call 83; refine (hr _).mono ?_; rintro e w' ⟨rfl, rfl⟩) | (go_at_call 84; refine (hlt _).mono ?_; rintro e w' ⟨rfl, rfl⟩))
        go_ret
        exact ⟨by first | rfl | simp [codeE], (by repeat (first | exact GBelow.refl _ _ | refine gbelow_alloc ?_ _ | refine pw_gbelow_drewN ?_ _ | refine gbelow_drew1 ?_))⟩
      · rw [HL, hal, h2] at hlt
        rw [if_pos ⟨h33, h2, rfl⟩]
        have e3 : (t.f0 != 3) = false := by rw [h33]; rfl
        have e2 : ((t.f2.size : Int) != 2) = false := by rw [h2]; rfl
        have e2' : (t.f2.size != 2) = false := by rw [h2]; rfl
        simp only [Nat.le_refl, decide_true, Bool.true_and] at hlt
        clear ho hs h0 h33 h2 hal HL
        go_enter Tryz.func23, Tryz.ntmps23
        go_wp2_with (first | (go_at_call 83; refine (hr _).mono ?_; rintro e w' ⟨rfl, rfl⟩) | (go_at_call 84; refine (hlt _).mono ?_; rintro e w' ⟨rfl, rfl⟩))
        go_ret
        exact ⟨by first | rfl | simp [codeE], (by repeat (first | exact GBelow.refl _ _ | refine gbelow_alloc ?_ _ | refine pw_gbelow_drewN ?_ _ | refine gbelow_drew1 ?_))⟩
    · rw [if_neg (fun h => h2 h.2.1)]
      have e3 : (t.f0 != 3) = false := by rw [h33]; rfl
      have e2 : ((t.f2.size : Int) != 2) = true := by rw [bne_iff_ne]; omega
      have e2' : (t.f2.size != 2) = true := by rw [bne_iff_ne]; exact h2
      generalize lettersR t.f2 2 = bl at hlt
      clear ho hs h0 h33 h2 HL
      go_enter Tryz.func23, Tryz.ntmps23
      go_wp2_with (first | (go_at_call 83; refine (hr _).mono ?_; rintro e w' ⟨rfl, rfl⟩) | (go_at_call 84; refine (hlt _).mono ?_; rintro e w' ⟨rfl, rfl⟩))
      go_ret
      exact ⟨by first | rfl | simp [codeE], (by repeat (first | exact GBelow.refl _ _ | refine gbelow_alloc ?_ _ | refine pw_gbelow_drewN ?_ _ | refine gbelow_drew1 ?_))⟩
  · rw [if_neg (fun h => h33 h.1)]
    have e3 : (t.f0 != 3) = true := by rw [bne_iff_ne]; exact h33
    generalize lettersR t.f2 2 = bl at hlt
    clear ho hs h0 h33 HL
    go_enter Tryz.func23, Tryz.ntmps23
    go_wp2_with (first | (go_at_call 83; refine (hr _).mono ?_; rintro e w' ⟨rfl, rfl⟩) | (go_at_call 84; refine (hlt _).mono ?_; rintro e w' ⟨rfl, rfl⟩))
    go_ret
    exact ⟨by first | rfl | simp [codeE], (by repeat (first | exact GBelow.refl _ _ | refine gbelow_alloc ?_ _ | refine pw_gbelow_drewN ?_ _ | refine gbelow_drew1 ?_))⟩
set_option maxHeartbeats 4000000 in
set_option maxRecDepth 100000 in
theorem rshape_calls (x : S25) (w : World) : Calls Tryz.prog 72 #[.agg #[.int .i64 x.f0.f0, .string x.f0.f1, .string x.f0.f2, .int .i64 x.f1.f0, .string x.f1.f1, .string x.f1.f2, .int .i64 x.f2.f0, .string x.f2.f1, .string x.f2.f2]] w fun e w' => e = .returned (.bool (shapeB x.f0.f0 x.f1.f0)) ∧ GBelow w.heap.size w w' := by
  unfold shapeB
  by_cases h : x.f0.f0 = 3
  · have e : (x.f0.f0 != 3) = false := by rw [h]; rfl
    rw [decide_eq_false (show ¬ (x.f0.f0 ≠ 3) from fun hn => hn h)]
    clear h
    go_enter Tryz.func72, Tryz.ntmps72
    go_wp2
    go_ret
    exact ⟨rfl, (by repeat (first | exact GBelow.refl _ _ | refine gbelow_alloc ?_ _ | refine pw_gbelow_drewN ?_ _ | refine gbelow_drew1 ?_))⟩
  have e : (x.f0.f0 != 3) = true := by rw [bne_iff_ne]; exact h
  rw [decide_eq_true h]
  clear h
  by_cases h1 : x.f1.f0 = 1
  · have e1 : (x.f1.f0 == 1) = true := by rw [h1]; rfl
    rw [decide_eq_true h1]
    clear h1
    go_enter Tryz.func72, Tryz.ntmps72
    go_wp2
    go_ret
    exact ⟨rfl, (by repeat (first | exact GBelow.refl _ _ | refine gbelow_alloc ?_ _ | refine pw_gbelow_drewN ?_ _ | refine gbelow_drew1 ?_))⟩
  have e1 : (x.f1.f0 == 1) = false := by simpa using h1
  rw [decide_eq_false h1]
  clear h1
  go_enter Tryz.func72, Tryz.ntmps72
  go_wp2
  go_ret
  exact ⟨rfl, (by repeat (first | exact GBelow.refl _ _ | refine gbelow_alloc ?_ _ | refine pw_gbelow_drewN ?_ _ | refine gbelow_drew1 ?_))⟩
theorem codeE_some (n : Int) : codeE (some n) = n := rfl
theorem codeE_none : codeE none = 0 := rfl
set_option maxHeartbeats 4000000 in
set_option maxRecDepth 100000 in
theorem rtriple_calls (x : S25) (w : World) : Calls Tryz.prog 9 #[.agg #[.int .i64 x.f0.f0, .string x.f0.f1, .string x.f0.f2, .int .i64 x.f1.f0, .string x.f1.f1, .string x.f1.f2, .int .i64 x.f2.f0, .string x.f2.f1, .string x.f2.f2]] w fun e w' => e = .returned (.int .i64 (codeE (chkR x))) ∧ GBelow w.heap.size w w' := by
  have t0 := fun W => rterm_calls x.f0 W
  have t1 := fun W => rterm_calls x.f1 W
  have t2 := fun W => rterm_calls x.f2 W
  have ts := fun W => rshape_calls x W
  have G := Aside0.mk (GBelow.refl w.heap.size w)
  have B : Aside0 (Box (w.alloc (.cells (celR x) 25)) w.heap.size (celR x)) := ⟨Box.new _ _ _⟩
  unfold celR at B
  unfold chkR
  cases h0 : chkT x.f0 with
  | some n =>
    have n0 : (n == 0) = false := by simpa using chkT_ne h0
    rw [h0] at t0
    simp only [codeE_some] at t0 ⊢
    clear h0 t1 t2
    generalize shapeB x.f0.f0 x.f1.f0 = bs at ts
    go_enter Tryz.func9, Tryz.ntmps9
    go_wp2_with (first | (go_at_call 23; refine stop_ ?_) | (go_at_call 72; refine stop_ ?_))
    refine ⟨?_⟩
    refine (t0 _).mono ?_
    rintro e w' ⟨rfl, hb⟩
    replace G := Aside0.mk (gbelow_step (gbelow_step G.out (by repeat (first | exact GBelow.refl _ _ | refine gbelow_alloc ?_ _ | refine pw_gbelow_drewN ?_ _ | refine gbelow_drew1 ?_))) hb)
    replace B := Aside0.mk (Box.keep (by repeat (first | exact Below.refl _ _ | refine below_alloc ?_ _ | refine pw_below_drewN ?_ _ | refine below_drew1 ?_)) hb.bel B.out)
    clear hb
    have k0 := B.out 0 (.int .i64 x.f0.f0) rfl
    have k1 := B.out 1 (.string x.f0.f1) rfl
    have k2 := B.out 2 (.string x.f0.f2) rfl
    have k3 := B.out 3 (.int .i64 x.f1.f0) rfl
    have k4 := B.out 4 (.string x.f1.f1) rfl
    have k5 := B.out 5 (.string x.f1.f2) rfl
    have k6 := B.out 6 (.int .i64 x.f2.f0) rfl
    have k7 := B.out 7 (.string x.f2.f1) rfl
    have k8 := B.out 8 (.string x.f2.f2) rfl
    cases bs
    all_goals
      go_wp2_with (first | (go_at_call 23; refine stop_ ?_) | (go_at_call 72; refine stop_ ?_))
      refine ⟨?_⟩
      refine (ts _).mono ?_
      rintro e w' ⟨rfl, hb⟩
      replace G := Aside0.mk (gbelow_step (gbelow_step G.out (by repeat (first | exact GBelow.refl _ _ | refine gbelow_alloc ?_ _ | refine pw_gbelow_drewN ?_ _ | refine gbelow_drew1 ?_))) hb)
      replace B := Aside0.mk (Box.keep (by repeat (first | exact Below.refl _ _ | refine below_alloc ?_ _ | refine pw_below_drewN ?_ _ | refine below_drew1 ?_)) hb.bel B.out)
      clear hb
      have k0 := B.out 0 (.int .i64 x.f0.f0) rfl
      have k1 := B.out 1 (.string x.f0.f1) rfl
      have k2 := B.out 2 (.string x.f0.f2) rfl
      have k3 := B.out 3 (.int .i64 x.f1.f0) rfl
      have k4 := B.out 4 (.string x.f1.f1) rfl
      have k5 := B.out 5 (.string x.f1.f2) rfl
      have k6 := B.out 6 (.int .i64 x.f2.f0) rfl
      have k7 := B.out 7 (.string x.f2.f1) rfl
      have k8 := B.out 8 (.string x.f2.f2) rfl
      clear k0 k1 k2 k3 k4 k5 k6 k7 k8
      go_wp2
      go_ret
      exact ⟨by first | rfl | simp [codeE], gbelow_step G.out (by repeat (first | exact GBelow.refl _ _ | refine gbelow_alloc ?_ _ | refine pw_gbelow_drewN ?_ _ | refine gbelow_drew1 ?_))⟩
  | none =>
    rw [h0] at t0
    simp only [codeE_none] at t0
    cases h1 : chkT x.f1 with
    | some n =>
      have n0 : (n == 0) = false := by simpa using chkT_ne h1
      rw [h1] at t1
      simp only [codeE_some] at t1 ⊢
      clear h0 h1 t2
      generalize shapeB x.f0.f0 x.f1.f0 = bs at ts
      go_enter Tryz.func9, Tryz.ntmps9
      go_wp2_with (first | (go_at_call 23; refine stop_ ?_) | (go_at_call 72; refine stop_ ?_))
      refine ⟨?_⟩
      refine (t0 _).mono ?_
      rintro e w' ⟨rfl, hb⟩
      replace G := Aside0.mk (gbelow_step (gbelow_step G.out (by repeat (first | exact GBelow.refl _ _ | refine gbelow_alloc ?_ _ | refine pw_gbelow_drewN ?_ _ | refine gbelow_drew1 ?_))) hb)
      replace B := Aside0.mk (Box.keep (by repeat (first | exact Below.refl _ _ | refine below_alloc ?_ _ | refine pw_below_drewN ?_ _ | refine below_drew1 ?_)) hb.bel B.out)
      clear hb
      have k0 := B.out 0 (.int .i64 x.f0.f0) rfl
      have k1 := B.out 1 (.string x.f0.f1) rfl
      have k2 := B.out 2 (.string x.f0.f2) rfl
      have k3 := B.out 3 (.int .i64 x.f1.f0) rfl
      have k4 := B.out 4 (.string x.f1.f1) rfl
      have k5 := B.out 5 (.string x.f1.f2) rfl
      have k6 := B.out 6 (.int .i64 x.f2.f0) rfl
      have k7 := B.out 7 (.string x.f2.f1) rfl
      have k8 := B.out 8 (.string x.f2.f2) rfl
      go_wp2_with (first | (go_at_call 23; refine stop_ ?_) | (go_at_call 72; refine stop_ ?_))
      refine ⟨?_⟩
      refine (t1 _).mono ?_
      rintro e w' ⟨rfl, hb⟩
      replace G := Aside0.mk (gbelow_step (gbelow_step G.out (by repeat (first | exact GBelow.refl _ _ | refine gbelow_alloc ?_ _ | refine pw_gbelow_drewN ?_ _ | refine gbelow_drew1 ?_))) hb)
      replace B := Aside0.mk (Box.keep (by repeat (first | exact Below.refl _ _ | refine below_alloc ?_ _ | refine pw_below_drewN ?_ _ | refine below_drew1 ?_)) hb.bel B.out)
      clear hb
      have k0 := B.out 0 (.int .i64 x.f0.f0) rfl
      have k1 := B.out 1 (.string x.f0.f1) rfl
      have k2 := B.out 2 (.string x.f0.f2) rfl
      have k3 := B.out 3 (.int .i64 x.f1.f0) rfl
      have k4 := B.out 4 (.string x.f1.f1) rfl
      have k5 := B.out 5 (.string x.f1.f2) rfl
      have k6 := B.out 6 (.int .i64 x.f2.f0) rfl
      have k7 := B.out 7 (.string x.f2.f1) rfl
      have k8 := B.out 8 (.string x.f2.f2) rfl
      cases bs
      all_goals
        go_wp2_with (first | (go_at_call 23; refine stop_ ?_) | (go_at_call 72; refine stop_ ?_))
        refine ⟨?_⟩
        refine (ts _).mono ?_
        rintro e w' ⟨rfl, hb⟩
        replace G := Aside0.mk (gbelow_step (gbelow_step G.out (by repeat (first | exact GBelow.refl _ _ | refine gbelow_alloc ?_ _ | refine pw_gbelow_drewN ?_ _ | refine gbelow_drew1 ?_))) hb)
        replace B := Aside0.mk (Box.keep (by repeat (first | exact Below.refl _ _ | refine below_alloc ?_ _ | refine pw_below_drewN ?_ _ | refine below_drew1 ?_)) hb.bel B.out)
        clear hb
        have k0 := B.out 0 (.int .i64 x.f0.f0) rfl
        have k1 := B.out 1 (.string x.f0.f1) rfl
        have k2 := B.out 2 (.string x.f0.f2) rfl
        have k3 := B.out 3 (.int .i64 x.f1.f0) rfl
        have k4 := B.out 4 (.string x.f1.f1) rfl
        have k5 := B.out 5 (.string x.f1.f2) rfl
        have k6 := B.out 6 (.int .i64 x.f2.f0) rfl
        have k7 := B.out 7 (.string x.f2.f1) rfl
        have k8 := B.out 8 (.string x.f2.f2) rfl
        clear k0 k1 k2 k3 k4 k5 k6 k7 k8
        go_wp2
        go_ret
        exact ⟨by first | rfl | simp [codeE], gbelow_step G.out (by repeat (first | exact GBelow.refl _ _ | refine gbelow_alloc ?_ _ | refine pw_gbelow_drewN ?_ _ | refine gbelow_drew1 ?_))⟩
    | none =>
      rw [h1] at t1
      simp only [codeE_none] at t1
      cases h2 : chkT x.f2 with
      | some n =>
        have n0 : (n == 0) = false := by simpa using chkT_ne h2
        rw [h2] at t2
        simp only [codeE_some] at t2 ⊢
        clear h0 h1 h2
        generalize shapeB x.f0.f0 x.f1.f0 = bs at ts
        go_enter Tryz.func9, Tryz.ntmps9
        go_wp2_with (first | (go_at_call 23; refine stop_ ?_) | (go_at_call 72; refine stop_ ?_))
        refine ⟨?_⟩
        refine (t0 _).mono ?_
        rintro e w' ⟨rfl, hb⟩
        replace G := Aside0.mk (gbelow_step (gbelow_step G.out (by repeat (first | exact GBelow.refl _ _ | refine gbelow_alloc ?_ _ | refine pw_gbelow_drewN ?_ _ | refine gbelow_drew1 ?_))) hb)
        replace B := Aside0.mk (Box.keep (by repeat (first | exact Below.refl _ _ | refine below_alloc ?_ _ | refine pw_below_drewN ?_ _ | refine below_drew1 ?_)) hb.bel B.out)
        clear hb
        have k0 := B.out 0 (.int .i64 x.f0.f0) rfl
        have k1 := B.out 1 (.string x.f0.f1) rfl
        have k2 := B.out 2 (.string x.f0.f2) rfl
        have k3 := B.out 3 (.int .i64 x.f1.f0) rfl
        have k4 := B.out 4 (.string x.f1.f1) rfl
        have k5 := B.out 5 (.string x.f1.f2) rfl
        have k6 := B.out 6 (.int .i64 x.f2.f0) rfl
        have k7 := B.out 7 (.string x.f2.f1) rfl
        have k8 := B.out 8 (.string x.f2.f2) rfl
        go_wp2_with (first | (go_at_call 23; refine stop_ ?_) | (go_at_call 72; refine stop_ ?_))
        refine ⟨?_⟩
        refine (t1 _).mono ?_
        rintro e w' ⟨rfl, hb⟩
        replace G := Aside0.mk (gbelow_step (gbelow_step G.out (by repeat (first | exact GBelow.refl _ _ | refine gbelow_alloc ?_ _ | refine pw_gbelow_drewN ?_ _ | refine gbelow_drew1 ?_))) hb)
        replace B := Aside0.mk (Box.keep (by repeat (first | exact Below.refl _ _ | refine below_alloc ?_ _ | refine pw_below_drewN ?_ _ | refine below_drew1 ?_)) hb.bel B.out)
        clear hb
        have k0 := B.out 0 (.int .i64 x.f0.f0) rfl
        have k1 := B.out 1 (.string x.f0.f1) rfl
        have k2 := B.out 2 (.string x.f0.f2) rfl
        have k3 := B.out 3 (.int .i64 x.f1.f0) rfl
        have k4 := B.out 4 (.string x.f1.f1) rfl
        have k5 := B.out 5 (.string x.f1.f2) rfl
        have k6 := B.out 6 (.int .i64 x.f2.f0) rfl
        have k7 := B.out 7 (.string x.f2.f1) rfl
        have k8 := B.out 8 (.string x.f2.f2) rfl
        go_wp2_with (first | (go_at_call 23; refine stop_ ?_) | (go_at_call 72; refine stop_ ?_))
        refine ⟨?_⟩
        refine (t2 _).mono ?_
        rintro e w' ⟨rfl, hb⟩
        replace G := Aside0.mk (gbelow_step (gbelow_step G.out (by repeat (first | exact GBelow.refl _ _ | refine gbelow_alloc ?_ _ | refine pw_gbelow_drewN ?_ _ | refine gbelow_drew1 ?_))) hb)
        replace B := Aside0.mk (Box.keep (by repeat (first | exact Below.refl _ _ | refine below_alloc ?_ _ | refine pw_below_drewN ?_ _ | refine below_drew1 ?_)) hb.bel B.out)
        clear hb
        have k0 := B.out 0 (.int .i64 x.f0.f0) rfl
        have k1 := B.out 1 (.string x.f0.f1) rfl
        have k2 := B.out 2 (.string x.f0.f2) rfl
        have k3 := B.out 3 (.int .i64 x.f1.f0) rfl
        have k4 := B.out 4 (.string x.f1.f1) rfl
        have k5 := B.out 5 (.string x.f1.f2) rfl
        have k6 := B.out 6 (.int .i64 x.f2.f0) rfl
        have k7 := B.out 7 (.string x.f2.f1) rfl
        have k8 := B.out 8 (.string x.f2.f2) rfl
        cases bs
        all_goals
          go_wp2_with (first | (go_at_call 23; refine stop_ ?_) | (go_at_call 72; refine stop_ ?_))
          refine ⟨?_⟩
          refine (ts _).mono ?_
          rintro e w' ⟨rfl, hb⟩
          replace G := Aside0.mk (gbelow_step (gbelow_step G.out (by repeat (first | exact GBelow.refl _ _ | refine gbelow_alloc ?_ _ | refine pw_gbelow_drewN ?_ _ | refine gbelow_drew1 ?_))) hb)
          replace B := Aside0.mk (Box.keep (by repeat (first | exact Below.refl _ _ | refine below_alloc ?_ _ | refine pw_below_drewN ?_ _ | refine below_drew1 ?_)) hb.bel B.out)
          clear hb
          have k0 := B.out 0 (.int .i64 x.f0.f0) rfl
          have k1 := B.out 1 (.string x.f0.f1) rfl
          have k2 := B.out 2 (.string x.f0.f2) rfl
          have k3 := B.out 3 (.int .i64 x.f1.f0) rfl
          have k4 := B.out 4 (.string x.f1.f1) rfl
          have k5 := B.out 5 (.string x.f1.f2) rfl
          have k6 := B.out 6 (.int .i64 x.f2.f0) rfl
          have k7 := B.out 7 (.string x.f2.f1) rfl
          have k8 := B.out 8 (.string x.f2.f2) rfl
          clear k0 k1 k2 k3 k4 k5 k6 k7 k8
          go_wp2
          go_ret
          exact ⟨by first | rfl | simp [codeE], gbelow_step G.out (by repeat (first | exact GBelow.refl _ _ | refine gbelow_alloc ?_ _ | refine pw_gbelow_drewN ?_ _ | refine gbelow_drew1 ?_))⟩
      | none =>
        rw [h2] at t2
        simp only [codeE_none] at t2
        clear h0 h1 h2
        by_cases hs : x.f0.f0 ≠ 3 ∧ x.f1.f0 = 1
        · have e : shapeB x.f0.f0 x.f1.f0 = true := by unfold shapeB; rw [decide_eq_true hs.1, decide_eq_true hs.2]; rfl
          simp only [if_pos hs]
          rw [e] at ts
          clear e hs
          go_enter Tryz.func9, Tryz.ntmps9
          go_wp2_with (first | (go_at_call 23; refine stop_ ?_) | (go_at_call 72; refine stop_ ?_))
          refine ⟨?_⟩
          refine (t0 _).mono ?_
          rintro e w' ⟨rfl, hb⟩
          replace G := Aside0.mk (gbelow_step (gbelow_step G.out (by repeat (first | exact GBelow.refl _ _ | refine gbelow_alloc ?_ _ | refine pw_gbelow_drewN ?_ _ | refine gbelow_drew1 ?_))) hb)
          replace B := Aside0.mk (Box.keep (by repeat (first | exact Below.refl _ _ | refine below_alloc ?_ _ | refine pw_below_drewN ?_ _ | refine below_drew1 ?_)) hb.bel B.out)
          clear hb
          have k0 := B.out 0 (.int .i64 x.f0.f0) rfl
          have k1 := B.out 1 (.string x.f0.f1) rfl
          have k2 := B.out 2 (.string x.f0.f2) rfl
          have k3 := B.out 3 (.int .i64 x.f1.f0) rfl
          have k4 := B.out 4 (.string x.f1.f1) rfl
          have k5 := B.out 5 (.string x.f1.f2) rfl
          have k6 := B.out 6 (.int .i64 x.f2.f0) rfl
          have k7 := B.out 7 (.string x.f2.f1) rfl
          have k8 := B.out 8 (.string x.f2.f2) rfl
          go_wp2_with (first | (go_at_call 23; refine stop_ ?_) | (go_at_call 72; refine stop_ ?_))
          refine ⟨?_⟩
          refine (t1 _).mono ?_
          rintro e w' ⟨rfl, hb⟩
          replace G := Aside0.mk (gbelow_step (gbelow_step G.out (by repeat (first | exact GBelow.refl _ _ | refine gbelow_alloc ?_ _ | refine pw_gbelow_drewN ?_ _ | refine gbelow_drew1 ?_))) hb)
          replace B := Aside0.mk (Box.keep (by repeat (first | exact Below.refl _ _ | refine below_alloc ?_ _ | refine pw_below_drewN ?_ _ | refine below_drew1 ?_)) hb.bel B.out)
          clear hb
          have k0 := B.out 0 (.int .i64 x.f0.f0) rfl
          have k1 := B.out 1 (.string x.f0.f1) rfl
          have k2 := B.out 2 (.string x.f0.f2) rfl
          have k3 := B.out 3 (.int .i64 x.f1.f0) rfl
          have k4 := B.out 4 (.string x.f1.f1) rfl
          have k5 := B.out 5 (.string x.f1.f2) rfl
          have k6 := B.out 6 (.int .i64 x.f2.f0) rfl
          have k7 := B.out 7 (.string x.f2.f1) rfl
          have k8 := B.out 8 (.string x.f2.f2) rfl
          go_wp2_with (first | (go_at_call 23; refine stop_ ?_) | (go_at_call 72; refine stop_ ?_))
          refine ⟨?_⟩
          refine (t2 _).mono ?_
          rintro e w' ⟨rfl, hb⟩
          replace G := Aside0.mk (gbelow_step (gbelow_step G.out (by repeat (first | exact GBelow.refl _ _ | refine gbelow_alloc ?_ _ | refine pw_gbelow_drewN ?_ _ | refine gbelow_drew1 ?_))) hb)
          replace B := Aside0.mk (Box.keep (by repeat (first | exact Below.refl _ _ | refine below_alloc ?_ _ | refine pw_below_drewN ?_ _ | refine below_drew1 ?_)) hb.bel B.out)
          clear hb
          have k0 := B.out 0 (.int .i64 x.f0.f0) rfl
          have k1 := B.out 1 (.string x.f0.f1) rfl
          have k2 := B.out 2 (.string x.f0.f2) rfl
          have k3 := B.out 3 (.int .i64 x.f1.f0) rfl
          have k4 := B.out 4 (.string x.f1.f1) rfl
          have k5 := B.out 5 (.string x.f1.f2) rfl
          have k6 := B.out 6 (.int .i64 x.f2.f0) rfl
          have k7 := B.out 7 (.string x.f2.f1) rfl
          have k8 := B.out 8 (.string x.f2.f2) rfl
          go_wp2_with (first | (go_at_call 23; refine stop_ ?_) | (go_at_call 72; refine stop_ ?_))
          refine ⟨?_⟩
          refine (ts _).mono ?_
          rintro e w' ⟨rfl, hb⟩
          replace G := Aside0.mk (gbelow_step (gbelow_step G.out (by repeat (first | exact GBelow.refl _ _ | refine gbelow_alloc ?_ _ | refine pw_gbelow_drewN ?_ _ | refine gbelow_drew1 ?_))) hb)
          replace B := Aside0.mk (Box.keep (by repeat (first | exact Below.refl _ _ | refine below_alloc ?_ _ | refine pw_below_drewN ?_ _ | refine below_drew1 ?_)) hb.bel B.out)
          clear hb
          have k0 := B.out 0 (.int .i64 x.f0.f0) rfl
          have k1 := B.out 1 (.string x.f0.f1) rfl
          have k2 := B.out 2 (.string x.f0.f2) rfl
          have k3 := B.out 3 (.int .i64 x.f1.f0) rfl
          have k4 := B.out 4 (.string x.f1.f1) rfl
          have k5 := B.out 5 (.string x.f1.f2) rfl
          have k6 := B.out 6 (.int .i64 x.f2.f0) rfl
          have k7 := B.out 7 (.string x.f2.f1) rfl
          have k8 := B.out 8 (.string x.f2.f2) rfl
          clear k0 k1 k2 k3 k4 k5 k6 k7 k8
          go_wp2
          go_ret
          exact ⟨by first | rfl | simp [codeE], gbelow_step G.out (by repeat (first | exact GBelow.refl _ _ | refine gbelow_alloc ?_ _ | refine pw_gbelow_drewN ?_ _ | refine gbelow_drew1 ?_))⟩
        · have e : shapeB x.f0.f0 x.f1.f0 = false := by unfold shapeB; rw [← Bool.not_eq_true]; simpa using hs
          simp only [if_neg hs]
          rw [e] at ts
          clear e hs
          go_enter Tryz.func9, Tryz.ntmps9
          go_wp2_with (first | (go_at_call 23; refine stop_ ?_) | (go_at_call 72; refine stop_ ?_))
          refine ⟨?_⟩
          refine (t0 _).mono ?_
          rintro e w' ⟨rfl, hb⟩
          replace G := Aside0.mk (gbelow_step (gbelow_step G.out (by repeat (first | exact GBelow.refl _ _ | refine gbelow_alloc ?_ _ | refine pw_gbelow_drewN ?_ _ | refine gbelow_drew1 ?_))) hb)
          replace B := Aside0.mk (Box.keep (by repeat (first | exact Below.refl _ _ | refine below_alloc ?_ _ | refine pw_below_drewN ?_ _ | refine below_drew1 ?_)) hb.bel B.out)
          clear hb
          have k0 := B.out 0 (.int .i64 x.f0.f0) rfl
          have k1 := B.out 1 (.string x.f0.f1) rfl
          have k2 := B.out 2 (.string x.f0.f2) rfl
          have k3 := B.out 3 (.int .i64 x.f1.f0) rfl
          have k4 := B.out 4 (.string x.f1.f1) rfl
          have k5 := B.out 5 (.string x.f1.f2) rfl
          have k6 := B.out 6 (.int .i64 x.f2.f0) rfl
          have k7 := B.out 7 (.string x.f2.f1) rfl
          have k8 := B.out 8 (.string x.f2.f2) rfl
          go_wp2_with (first | (go_at_call 23; refine stop_ ?_) | (go_at_call 72; refine stop_ ?_))
          refine ⟨?_⟩
          refine (t1 _).mono ?_
          rintro e w' ⟨rfl, hb⟩
          replace G := Aside0.mk (gbelow_step (gbelow_step G.out (by repeat (first | exact GBelow.refl _ _ | refine gbelow_alloc ?_ _ | refine pw_gbelow_drewN ?_ _ | refine gbelow_drew1 ?_))) hb)
          replace B := Aside0.mk (Box.keep (by repeat (first | exact Below.refl _ _ | refine below_alloc ?_ _ | refine pw_below_drewN ?_ _ | refine below_drew1 ?_)) hb.bel B.out)
          clear hb
          have k0 := B.out 0 (.int .i64 x.f0.f0) rfl
          have k1 := B.out 1 (.string x.f0.f1) rfl
          have k2 := B.out 2 (.string x.f0.f2) rfl
          have k3 := B.out 3 (.int .i64 x.f1.f0) rfl
          have k4 := B.out 4 (.string x.f1.f1) rfl
          have k5 := B.out 5 (.string x.f1.f2) rfl
          have k6 := B.out 6 (.int .i64 x.f2.f0) rfl
          have k7 := B.out 7 (.string x.f2.f1) rfl
          have k8 := B.out 8 (.string x.f2.f2) rfl
          go_wp2_with (first | (go_at_call 23; refine stop_ ?_) | (go_at_call 72; refine stop_ ?_))
          refine ⟨?_⟩
          refine (t2 _).mono ?_
          rintro e w' ⟨rfl, hb⟩
          replace G := Aside0.mk (gbelow_step (gbelow_step G.out (by repeat (first | exact GBelow.refl _ _ | refine gbelow_alloc ?_ _ | refine pw_gbelow_drewN ?_ _ | refine gbelow_drew1 ?_))) hb)
          replace B := Aside0.mk (Box.keep (by repeat (first | exact Below.refl _ _ | refine below_alloc ?_ _ | refine pw_below_drewN ?_ _ | refine below_drew1 ?_)) hb.bel B.out)
          clear hb
          have k0 := B.out 0 (.int .i64 x.f0.f0) rfl
          have k1 := B.out 1 (.string x.f0.f1) rfl
          have k2 := B.out 2 (.string x.f0.f2) rfl
          have k3 := B.out 3 (.int .i64 x.f1.f0) rfl
          have k4 := B.out 4 (.string x.f1.f1) rfl
          have k5 := B.out 5 (.string x.f1.f2) rfl
          have k6 := B.out 6 (.int .i64 x.f2.f0) rfl
          have k7 := B.out 7 (.string x.f2.f1) rfl
          have k8 := B.out 8 (.string x.f2.f2) rfl
          go_wp2_with (first | (go_at_call 23; refine stop_ ?_) | (go_at_call 72; refine stop_ ?_))
          refine ⟨?_⟩
          refine (ts _).mono ?_
          rintro e w' ⟨rfl, hb⟩
          replace G := Aside0.mk (gbelow_step (gbelow_step G.out (by repeat (first | exact GBelow.refl _ _ | refine gbelow_alloc ?_ _ | refine pw_gbelow_drewN ?_ _ | refine gbelow_drew1 ?_))) hb)
          replace B := Aside0.mk (Box.keep (by repeat (first | exact Below.refl _ _ | refine below_alloc ?_ _ | refine pw_below_drewN ?_ _ | refine below_drew1 ?_)) hb.bel B.out)
          clear hb
          have k0 := B.out 0 (.int .i64 x.f0.f0) rfl
          have k1 := B.out 1 (.string x.f0.f1) rfl
          have k2 := B.out 2 (.string x.f0.f2) rfl
          have k3 := B.out 3 (.int .i64 x.f1.f0) rfl
          have k4 := B.out 4 (.string x.f1.f1) rfl
          have k5 := B.out 5 (.string x.f1.f2) rfl
          have k6 := B.out 6 (.int .i64 x.f2.f0) rfl
          have k7 := B.out 7 (.string x.f2.f1) rfl
          have k8 := B.out 8 (.string x.f2.f2) rfl
          clear k0 k1 k2 k3 k4 k5 k6 k7 k8
          go_wp2
          go_ret
          exact ⟨by first | rfl | simp [codeE], gbelow_step G.out (by repeat (first | exact GBelow.refl _ _ | refine gbelow_alloc ?_ _ | refine pw_gbelow_drewN ?_ _ | refine gbelow_drew1 ?_))⟩
theorem orI_z {a b c : Int} (h : a = 0) (h2 : b = 0) : orI a b c = c := by unfold orI; rw [if_pos h, if_pos h2]
theorem orI_a {a b c : Int} (h : ¬ a = 0) : orI a b c = a := by unfold orI; rw [if_neg h]
theorem orI_b {a b c : Int} (h : a = 0) (h2 : ¬ b = 0) : orI a b c = b := by unfold orI; rw [if_pos h, if_neg h2]
set_option maxHeartbeats 4000000 in
set_option maxRecDepth 100000 in
theorem rorder_calls (x y : S25) (w : World) : Calls Tryz.prog 22 #[.agg #[.int .i64 x.f0.f0, .string x.f0.f1, .string x.f0.f2, .int .i64 x.f1.f0, .string x.f1.f1, .string x.f1.f2, .int .i64 x.f2.f0, .string x.f2.f1, .string x.f2.f2], .agg #[.int .i64 y.f0.f0, .string y.f0.f1, .string y.f0.f2, .int .i64 y.f1.f0, .string y.f1.f1, .string y.f1.f2, .int .i64 y.f2.f0, .string y.f2.f1, .string y.f2.f2]] w fun e w' => e = .returned (.int .i64 (cmpR x y)) ∧ GBelow w.heap.size w w' := by
  have t0 := fun W => rcompare_calls x.f0 y.f0 W
  have t1 := fun W => rcompare_calls x.f1 y.f1 W
  have t2 := fun W => rcompare_calls x.f2 y.f2 W
  have G := Aside0.mk (GBelow.refl w.heap.size w)
  have B : Aside0 (Box ((w.alloc (.cells (celR x) 25)).alloc (.cells (celR y) 25)) w.heap.size (celR x)) := ⟨fun c v h => cell?_alloc_old (Box.new w (celR x) 25 c v h) _⟩
  have D : Aside0 (Box ((w.alloc (.cells (celR x) 25)).alloc (.cells (celR y) 25)) (w.heap.size + 1) (celR y)) := ⟨by have := Box.new (w.alloc (.cells (celR x) 25)) (celR y) 25; rw [alloc_size1] at this; exact this⟩
  unfold celR at B D
  unfold cmpR
  generalize cmpT x.f0 y.f0 = c0 at t0 ⊢
  generalize cmpT x.f1 y.f1 = c1 at t1 ⊢
  generalize cmpT x.f2 y.f2 = c2 at t2 ⊢
  by_cases h0 : c0 = 0
  · by_cases h1 : c1 = 0
    · rw [orI_z h0 h1]
      subst h0 h1
      go_enter Tryz.func22, Tryz.ntmps22
      go_wp2_with (go_at_call 43; refine stop_ ?_)
      refine ⟨?_⟩
      refine (t0 _).mono ?_
      rintro e w' ⟨rfl, hb⟩
      replace G := Aside0.mk (gbelow_step (gbelow_step G.out (by repeat (first | exact GBelow.refl _ _ | refine gbelow_alloc ?_ _ | refine pw_gbelow_drewN ?_ _ | refine gbelow_drew1 ?_))) hb)
      replace B := Aside0.mk (Box.keep (by repeat (first | exact Below.refl _ _ | refine below_alloc ?_ _ | refine pw_below_drewN ?_ _ | refine below_drew1 ?_)) hb.bel B.out)
      replace D := Aside0.mk (Box.keep (by repeat (first | exact Below.refl _ _ | refine below_alloc ?_ _ | refine pw_below_drewN ?_ _ | refine below_drew1 ?_)) hb.bel D.out)
      clear hb
      have k0 := B.out 0 (.int .i64 x.f0.f0) rfl
      have k1 := B.out 1 (.string x.f0.f1) rfl
      have k2 := B.out 2 (.string x.f0.f2) rfl
      have k3 := B.out 3 (.int .i64 x.f1.f0) rfl
      have k4 := B.out 4 (.string x.f1.f1) rfl
      have k5 := B.out 5 (.string x.f1.f2) rfl
      have k6 := B.out 6 (.int .i64 x.f2.f0) rfl
      have k7 := B.out 7 (.string x.f2.f1) rfl
      have k8 := B.out 8 (.string x.f2.f2) rfl
      have m0 := D.out 0 (.int .i64 y.f0.f0) rfl
      have m1 := D.out 1 (.string y.f0.f1) rfl
      have m2 := D.out 2 (.string y.f0.f2) rfl
      have m3 := D.out 3 (.int .i64 y.f1.f0) rfl
      have m4 := D.out 4 (.string y.f1.f1) rfl
      have m5 := D.out 5 (.string y.f1.f2) rfl
      have m6 := D.out 6 (.int .i64 y.f2.f0) rfl
      have m7 := D.out 7 (.string y.f2.f1) rfl
      have m8 := D.out 8 (.string y.f2.f2) rfl
      go_wp2_with (go_at_call 43; refine stop_ ?_)
      refine ⟨?_⟩
      refine (t1 _).mono ?_
      rintro e w' ⟨rfl, hb⟩
      replace G := Aside0.mk (gbelow_step (gbelow_step G.out (by repeat (first | exact GBelow.refl _ _ | refine gbelow_alloc ?_ _ | refine pw_gbelow_drewN ?_ _ | refine gbelow_drew1 ?_))) hb)
      replace B := Aside0.mk (Box.keep (by repeat (first | exact Below.refl _ _ | refine below_alloc ?_ _ | refine pw_below_drewN ?_ _ | refine below_drew1 ?_)) hb.bel B.out)
      replace D := Aside0.mk (Box.keep (by repeat (first | exact Below.refl _ _ | refine below_alloc ?_ _ | refine pw_below_drewN ?_ _ | refine below_drew1 ?_)) hb.bel D.out)
      clear hb
      have k0 := B.out 0 (.int .i64 x.f0.f0) rfl
      have k1 := B.out 1 (.string x.f0.f1) rfl
      have k2 := B.out 2 (.string x.f0.f2) rfl
      have k3 := B.out 3 (.int .i64 x.f1.f0) rfl
      have k4 := B.out 4 (.string x.f1.f1) rfl
      have k5 := B.out 5 (.string x.f1.f2) rfl
      have k6 := B.out 6 (.int .i64 x.f2.f0) rfl
      have k7 := B.out 7 (.string x.f2.f1) rfl
      have k8 := B.out 8 (.string x.f2.f2) rfl
      have m0 := D.out 0 (.int .i64 y.f0.f0) rfl
      have m1 := D.out 1 (.string y.f0.f1) rfl
      have m2 := D.out 2 (.string y.f0.f2) rfl
      have m3 := D.out 3 (.int .i64 y.f1.f0) rfl
      have m4 := D.out 4 (.string y.f1.f1) rfl
      have m5 := D.out 5 (.string y.f1.f2) rfl
      have m6 := D.out 6 (.int .i64 y.f2.f0) rfl
      have m7 := D.out 7 (.string y.f2.f1) rfl
      have m8 := D.out 8 (.string y.f2.f2) rfl
      go_wp2_with (go_at_call 43; refine stop_ ?_)
      refine ⟨?_⟩
      refine (t2 _).mono ?_
      rintro e w' ⟨rfl, hb⟩
      replace G := Aside0.mk (gbelow_step (gbelow_step G.out (by repeat (first | exact GBelow.refl _ _ | refine gbelow_alloc ?_ _ | refine pw_gbelow_drewN ?_ _ | refine gbelow_drew1 ?_))) hb)
      replace B := Aside0.mk (Box.keep (by repeat (first | exact Below.refl _ _ | refine below_alloc ?_ _ | refine pw_below_drewN ?_ _ | refine below_drew1 ?_)) hb.bel B.out)
      replace D := Aside0.mk (Box.keep (by repeat (first | exact Below.refl _ _ | refine below_alloc ?_ _ | refine pw_below_drewN ?_ _ | refine below_drew1 ?_)) hb.bel D.out)
      clear hb
      have k0 := B.out 0 (.int .i64 x.f0.f0) rfl
      have k1 := B.out 1 (.string x.f0.f1) rfl
      have k2 := B.out 2 (.string x.f0.f2) rfl
      have k3 := B.out 3 (.int .i64 x.f1.f0) rfl
      have k4 := B.out 4 (.string x.f1.f1) rfl
      have k5 := B.out 5 (.string x.f1.f2) rfl
      have k6 := B.out 6 (.int .i64 x.f2.f0) rfl
      have k7 := B.out 7 (.string x.f2.f1) rfl
      have k8 := B.out 8 (.string x.f2.f2) rfl
      have m0 := D.out 0 (.int .i64 y.f0.f0) rfl
      have m1 := D.out 1 (.string y.f0.f1) rfl
      have m2 := D.out 2 (.string y.f0.f2) rfl
      have m3 := D.out 3 (.int .i64 y.f1.f0) rfl
      have m4 := D.out 4 (.string y.f1.f1) rfl
      have m5 := D.out 5 (.string y.f1.f2) rfl
      have m6 := D.out 6 (.int .i64 y.f2.f0) rfl
      have m7 := D.out 7 (.string y.f2.f1) rfl
      have m8 := D.out 8 (.string y.f2.f2) rfl
      clear k0 k1 k2 k3 k4 k5 k6 k7 k8 m0 m1 m2 m3 m4 m5 m6 m7 m8
      go_wp2
      go_ret
      exact ⟨rfl, gbelow_step G.out (by repeat (first | exact GBelow.refl _ _ | refine gbelow_alloc ?_ _ | refine pw_gbelow_drewN ?_ _ | refine gbelow_drew1 ?_))⟩
    · rw [orI_b h0 h1]
      have n1 : (c1 == 0) = false := by simpa using h1
      subst h0
      clear h1
      go_enter Tryz.func22, Tryz.ntmps22
      go_wp2_with (go_at_call 43; refine stop_ ?_)
      refine ⟨?_⟩
      refine (t0 _).mono ?_
      rintro e w' ⟨rfl, hb⟩
      replace G := Aside0.mk (gbelow_step (gbelow_step G.out (by repeat (first | exact GBelow.refl _ _ | refine gbelow_alloc ?_ _ | refine pw_gbelow_drewN ?_ _ | refine gbelow_drew1 ?_))) hb)
      replace B := Aside0.mk (Box.keep (by repeat (first | exact Below.refl _ _ | refine below_alloc ?_ _ | refine pw_below_drewN ?_ _ | refine below_drew1 ?_)) hb.bel B.out)
      replace D := Aside0.mk (Box.keep (by repeat (first | exact Below.refl _ _ | refine below_alloc ?_ _ | refine pw_below_drewN ?_ _ | refine below_drew1 ?_)) hb.bel D.out)
      clear hb
      have k0 := B.out 0 (.int .i64 x.f0.f0) rfl
      have k1 := B.out 1 (.string x.f0.f1) rfl
      have k2 := B.out 2 (.string x.f0.f2) rfl
      have k3 := B.out 3 (.int .i64 x.f1.f0) rfl
      have k4 := B.out 4 (.string x.f1.f1) rfl
      have k5 := B.out 5 (.string x.f1.f2) rfl
      have k6 := B.out 6 (.int .i64 x.f2.f0) rfl
      have k7 := B.out 7 (.string x.f2.f1) rfl
      have k8 := B.out 8 (.string x.f2.f2) rfl
      have m0 := D.out 0 (.int .i64 y.f0.f0) rfl
      have m1 := D.out 1 (.string y.f0.f1) rfl
      have m2 := D.out 2 (.string y.f0.f2) rfl
      have m3 := D.out 3 (.int .i64 y.f1.f0) rfl
      have m4 := D.out 4 (.string y.f1.f1) rfl
      have m5 := D.out 5 (.string y.f1.f2) rfl
      have m6 := D.out 6 (.int .i64 y.f2.f0) rfl
      have m7 := D.out 7 (.string y.f2.f1) rfl
      have m8 := D.out 8 (.string y.f2.f2) rfl
      go_wp2_with (go_at_call 43; refine stop_ ?_)
      refine ⟨?_⟩
      refine (t1 _).mono ?_
      rintro e w' ⟨rfl, hb⟩
      replace G := Aside0.mk (gbelow_step (gbelow_step G.out (by repeat (first | exact GBelow.refl _ _ | refine gbelow_alloc ?_ _ | refine pw_gbelow_drewN ?_ _ | refine gbelow_drew1 ?_))) hb)
      replace B := Aside0.mk (Box.keep (by repeat (first | exact Below.refl _ _ | refine below_alloc ?_ _ | refine pw_below_drewN ?_ _ | refine below_drew1 ?_)) hb.bel B.out)
      replace D := Aside0.mk (Box.keep (by repeat (first | exact Below.refl _ _ | refine below_alloc ?_ _ | refine pw_below_drewN ?_ _ | refine below_drew1 ?_)) hb.bel D.out)
      clear hb
      have k0 := B.out 0 (.int .i64 x.f0.f0) rfl
      have k1 := B.out 1 (.string x.f0.f1) rfl
      have k2 := B.out 2 (.string x.f0.f2) rfl
      have k3 := B.out 3 (.int .i64 x.f1.f0) rfl
      have k4 := B.out 4 (.string x.f1.f1) rfl
      have k5 := B.out 5 (.string x.f1.f2) rfl
      have k6 := B.out 6 (.int .i64 x.f2.f0) rfl
      have k7 := B.out 7 (.string x.f2.f1) rfl
      have k8 := B.out 8 (.string x.f2.f2) rfl
      have m0 := D.out 0 (.int .i64 y.f0.f0) rfl
      have m1 := D.out 1 (.string y.f0.f1) rfl
      have m2 := D.out 2 (.string y.f0.f2) rfl
      have m3 := D.out 3 (.int .i64 y.f1.f0) rfl
      have m4 := D.out 4 (.string y.f1.f1) rfl
      have m5 := D.out 5 (.string y.f1.f2) rfl
      have m6 := D.out 6 (.int .i64 y.f2.f0) rfl
      have m7 := D.out 7 (.string y.f2.f1) rfl
      have m8 := D.out 8 (.string y.f2.f2) rfl
      clear k0 k1 k2 k3 k4 k5 k6 k7 k8 m0 m1 m2 m3 m4 m5 m6 m7 m8
      go_wp2
      go_ret
      exact ⟨rfl, gbelow_step G.out (by repeat (first | exact GBelow.refl _ _ | refine gbelow_alloc ?_ _ | refine pw_gbelow_drewN ?_ _ | refine gbelow_drew1 ?_))⟩
  · rw [orI_a h0]
    have n0 : (c0 == 0) = false := by simpa using h0
    clear h0
    go_enter Tryz.func22, Tryz.ntmps22
    go_wp2_with (go_at_call 43; refine stop_ ?_)
    refine ⟨?_⟩
    refine (t0 _).mono ?_
    rintro e w' ⟨rfl, hb⟩
    replace G := Aside0.mk (gbelow_step (gbelow_step G.out (by repeat (first | exact GBelow.refl _ _ | refine gbelow_alloc ?_ _ | refine pw_gbelow_drewN ?_ _ | refine gbelow_drew1 ?_))) hb)
    replace B := Aside0.mk (Box.keep (by repeat (first | exact Below.refl _ _ | refine below_alloc ?_ _ | refine pw_below_drewN ?_ _ | refine below_drew1 ?_)) hb.bel B.out)
    replace D := Aside0.mk (Box.keep (by repeat (first | exact Below.refl _ _ | refine below_alloc ?_ _ | refine pw_below_drewN ?_ _ | refine below_drew1 ?_)) hb.bel D.out)
    clear hb
    have k0 := B.out 0 (.int .i64 x.f0.f0) rfl
    have k1 := B.out 1 (.string x.f0.f1) rfl
    have k2 := B.out 2 (.string x.f0.f2) rfl
    have k3 := B.out 3 (.int .i64 x.f1.f0) rfl
    have k4 := B.out 4 (.string x.f1.f1) rfl
    have k5 := B.out 5 (.string x.f1.f2) rfl
    have k6 := B.out 6 (.int .i64 x.f2.f0) rfl
    have k7 := B.out 7 (.string x.f2.f1) rfl
    have k8 := B.out 8 (.string x.f2.f2) rfl
    have m0 := D.out 0 (.int .i64 y.f0.f0) rfl
    have m1 := D.out 1 (.string y.f0.f1) rfl
    have m2 := D.out 2 (.string y.f0.f2) rfl
    have m3 := D.out 3 (.int .i64 y.f1.f0) rfl
    have m4 := D.out 4 (.string y.f1.f1) rfl
    have m5 := D.out 5 (.string y.f1.f2) rfl
    have m6 := D.out 6 (.int .i64 y.f2.f0) rfl
    have m7 := D.out 7 (.string y.f2.f1) rfl
    have m8 := D.out 8 (.string y.f2.f2) rfl
    clear k0 k1 k2 k3 k4 k5 k6 k7 k8 m0 m1 m2 m3 m4 m5 m6 m7 m8
    go_wp2
    go_ret
    exact ⟨rfl, gbelow_step G.out (by repeat (first | exact GBelow.refl _ _ | refine gbelow_alloc ?_ _ | refine pw_gbelow_drewN ?_ _ | refine gbelow_drew1 ?_))⟩
end Go.Proofs.YtdjamphmndbmjaaGreatDoor.M

/- strataref1's Set, Two, In, Part: the faults of sets, what is in one (printed by wip/gen_r3.py). -/
namespace Go.Proofs.YtdjamphmndbmjaaGreatDoor.M
open Go.RowKit Go.Proofs.YtdjamphmndbmjaaGreatDoorW.PrintWords Go.Proofs.YtdjamphmndbmjaaGreatDoorW.PrintLast Go.Proofs.YtdjamphmndbmjaaGreatDoorW.PrintMore
set_option linter.unusedVariables false
set_option linter.unusedSimpArgs false

open Go.Sort
theorem rorder_grown (x y : S25) (w : World) : Calls Tryz.prog 22 #[.agg #[.int .i64 x.f0.f0, .string x.f0.f1, .string x.f0.f2, .int .i64 x.f1.f0, .string x.f1.f1, .string x.f1.f2, .int .i64 x.f2.f0, .string x.f2.f1, .string x.f2.f2], .agg #[.int .i64 y.f0.f0, .string y.f0.f1, .string y.f0.f2, .int .i64 y.f1.f0, .string y.f1.f1, .string y.f1.f2, .int .i64 y.f2.f0, .string y.f2.f1, .string y.f2.f2]] w fun e w' => e = .returned (.int .i64 (cmpR x y)) ∧ ∃ q os, w' = grow (w.drewN q) os :=
  (rorder_calls x y w).mono fun _ _ ⟨he, hb⟩ => ⟨he, hb.grown⟩
theorem sf_bad {l : List S25} {i : Nat} {p : Option S25} {n : Int} (h : i < l.length) (hc : chkR l[i] = some n) : sortedFrom p (l.drop i) = some n := by
  rw [List.drop_eq_getElem_cons h]; unfold sortedFrom; rw [hc]
theorem sf_first {l : List S25} {i : Nat} (h : i < l.length) (hc : chkR l[i] = none) : sortedFrom none (l.drop i) = sortedFrom (some l[i]) (l.drop (i + 1)) := by
  rw [List.drop_eq_getElem_cons h]; conv => lhs; unfold sortedFrom
  rw [hc]; simp
theorem sf_six {l : List S25} {i : Nat} {q : S25} (h : i < l.length) (hc : chkR l[i] = none) (h6 : 0 ≤ cmpR q l[i]) : sortedFrom (some q) (l.drop i) = some 6 := by
  rw [List.drop_eq_getElem_cons h]; unfold sortedFrom; rw [hc]; simp [h6]
theorem sf_go {l : List S25} {i : Nat} {q : S25} (h : i < l.length) (hc : chkR l[i] = none) (h6 : ¬ 0 ≤ cmpR q l[i]) : sortedFrom (some q) (l.drop i) = sortedFrom (some l[i]) (l.drop (i + 1)) := by
  rw [List.drop_eq_getElem_cons h]; conv => lhs; unfold sortedFrom
  rw [hc]; simp [h6]
theorem idx_succ {l : List S25} {P : S25 → Prop} {i : Nat} (h : ∀ j (hj : j < l.length), j < i → P l[j]) (hi : ∀ hl : i < l.length, P l[i]) : ∀ j (hj : j < l.length), j < i + 1 → P l[j] := by
  intro j hj hji
  rcases Nat.lt_succ_iff_lt_or_eq.1 hji with h1 | rfl
  · exact h j hj h1
  · exact hi hj
theorem gbelow_grow (W : World) (n : Nat) (os : Array Obj) : GBelow W.heap.size W (grow (W.drewN n) os) := ⟨grow_below W n os, Nat.le_add_right _ _⟩
set_option maxHeartbeats 4000000 in
set_option maxRecDepth 100000 in
theorem rset_calls (A : Option Addr) (c : Nat) (l : List S25) (w : World) (hC : Kd.C k25 w A l.length l) : Calls Tryz.prog 17 #[.slice A l.length c] w fun e w' => e = .returned (.int .i64 (codeE (sortedR l))) ∧ GBelow w.heap.size w w' := by
  have mixed : Tryz.prog.follows .mixedOrders = true := by kernel_rfl
  by_cases hl : l.length > 200
  · have hlz : (l.length : Int) > 200 := by omega
    rw [show sortedR l = some 4 by unfold sortedR; rw [if_pos hl]]
    clear hC hl
    go_enter Tryz.func17, Tryz.ntmps17
    go_wp2
    go_ret
    exact ⟨rfl, GBelow.refl _ _⟩
  have hlz : ¬ (l.length : Int) > 200 := by omega
  obtain ⟨res, hres⟩ : ∃ r, sortedR l = r := ⟨_, rfl⟩
  have hr0 : sortedFrom none (l.drop 0) = res := by rw [← hres]; unfold sortedR; rw [if_neg hl, List.drop_zero]
  rw [hres]
  have HL := Aside0.mk hl; have HR := Aside0.mk hC; have H0 := Aside0.mk hr0; clear hres hr0 hC hl
  go_enter Tryz.func17, Tryz.ntmps17
  go_wp2
  clear hlz
  go_loopg [3, 4] l.length (fun gg s3 _ wr => ∃ i : Nat, i ≤ l.length ∧ l.length - i ≤ gg ∧ s3 = .int .i64 (i : Int) ∧ Aside0 (GBelow w.heap.size w wr) ∧ Aside0 (∃ p, (0 < i → ∃ h : i - 1 < l.length, p = some l[i - 1]) ∧ (i = 0 → p = none) ∧ sortedFrom p (l.drop i) = res))
  case atStart => exact ⟨0, Nat.zero_le _, by omega, rfl, ⟨GBelow.refl _ _⟩, ⟨none, fun h => absurd h (Nat.lt_irrefl 0), fun _ => rfl, H0.out⟩⟩
  case round =>
    obtain ⟨i, hi, hg, rfl, HG, HP⟩ := hrel
    by_cases hlt : i < l.length
    · have hltz : (i : Int) < (l.length : Int) := by omega
      have hlow : (0 : Int) ≤ (i : Int) := by omega
      have hbig : (i : Int) < 9223372036854775807 := by have := HL.out; omega
      obtain ⟨adh, eh, h0, h1, h2, h3, h4, h5, h6, h7, h8⟩ := at_T25 (Kd.C_below HR.out HG.out.bel) (i : Int) (by omega) (by omega)
      first | subst eh | obtain rfl := Option.some.inj eh
      rw [rd_T25_at l i hlt, Int.toNat_natCast] at h0 h1 h2 h3 h4 h5 h6 h7 h8
      have hT := fun W => rtriple_calls l[i] W
      have HB1 := fun (n : Int) (p : Option S25) (h : chkR l[i] = some n) => sf_bad (p := p) hlt h
      have HB2 := fun (h : chkR l[i] = none) => sf_first hlt h
      have HB3 := fun (q : S25) (h : chkR l[i] = none) (h6 : 0 ≤ cmpR q l[i]) => sf_six hlt h h6
      have HB4 := fun (q : S25) (h : chkR l[i] = none) (h6 : ¬ 0 ≤ cmpR q l[i]) => sf_go hlt h h6
      have HK := Aside0.mk (And.intro HB1 (And.intro HB2 (And.intro HB3 HB4)))
      clear HB1 HB2 HB3 HB4
      have HLT := Aside0.mk hlt
      cases hc : chkR l[i] with
      | some n =>
        have n0 : (n != 0) = true := by simpa using chkR_ne hc
        rw [hc] at hT
        simp only [codeE_some] at hT
        have HCC := Aside0.mk hc
        clear hc
        skip
        go_wp2_with (go_at_call 9; refine stop_ ?_)
        refine ⟨?_⟩
        refine (hT _).mono ?_
        rintro e w' ⟨rfl, hb⟩
        have HG2 := Aside0.mk (gbelow_step (gbelow_step HG.out (by repeat (first | exact GBelow.refl _ _ | refine gbelow_alloc ?_ _ | refine pw_gbelow_drewN ?_ _ | refine gbelow_drew1 ?_))) hb)
        clear hb h0 h1 h2 h3 h4 h5 h6 h7 h8
        go_wp2
        go_ret
        refine ⟨?_, HG2.out⟩
        obtain ⟨p, _, _, hp⟩ := HP.out
        rw [← hp, HK.out.1 n p HCC.out] <;> rfl
      | none =>
        rw [hc] at hT
        simp only [codeE_none] at hT
        have HCC := Aside0.mk hc
        clear hc
        go_wp2_with (go_at_call 9; refine stop_ ?_)
        refine ⟨?_⟩
        refine (hT _).mono ?_
        rintro e w' ⟨rfl, hb⟩
        have HG2 := Aside0.mk (gbelow_step (gbelow_step HG.out (by repeat (first | exact GBelow.refl _ _ | refine gbelow_alloc ?_ _ | refine pw_gbelow_drewN ?_ _ | refine gbelow_drew1 ?_))) hb)
        clear hb h0 h1 h2 h3 h4 h5 h6 h7 h8
        by_cases hi0 : i = 0
        · have g1 : decide ((i : Int) > 0) = false := decide_eq_false (by omega)
          have g2 : decide (i > 0) = false := decide_eq_false (by omega)
          have g3 : decide ((0 : Int) < (i : Int)) = false := decide_eq_false (by omega)
          have HI := Aside0.mk hi0
          clear hi0
          go_wp2
          repeat (go_quiet (fail); try go_wp2)
          go_roundg (l.length - (i + 1))
          case measure => omega
          case rel => exact ⟨i + 1, HLT.out, by omega, by go_num, ⟨by first | exact HG2.out | exact pw_gbelow_drewN HG2.out _⟩, ⟨some l[i], fun _ => ⟨HLT.out, rfl⟩, fun h => absurd h (by omega), by obtain ⟨p, _, hp0, hp⟩ := HP.out; rw [hp0 HI.out, HK.out.2.1 HCC.out] at hp; exact hp⟩⟩
        obtain ⟨j, hj⟩ : ∃ j, j + 1 = i := ⟨i - 1, by omega⟩
        have hjl : j < l.length := by omega
        have hpj : ∃ p, p = some l[j] ∧ sortedFrom p (l.drop i) = res := by
          obtain ⟨p, hp1, _, hp⟩ := HP.out
          obtain ⟨h1, h2⟩ := hp1 (by omega)
          refine ⟨p, ?_, hp⟩
          rw [h2]
          congr 1
          congr 1
          omega
        have hw : IntKind.i64.wrap ((i : Int) - 1) = (j : Int) := by rw [i64_wrap_id _ (by omega) (by omega)]; omega
        have hj0 : (0 : Int) ≤ (j : Int) := by omega
        have hjz : (j : Int) < (l.length : Int) := by omega
        obtain ⟨adh, eh, h0, h1, h2, h3, h4, h5, h6, h7, h8⟩ := at_T25 (Kd.C_below HR.out HG2.out.bel) (i : Int) (by omega) (by omega)
        first | subst eh | obtain rfl := Option.some.inj eh
        rw [rd_T25_at l i hlt, Int.toNat_natCast] at h0 h1 h2 h3 h4 h5 h6 h7 h8
        obtain ⟨adm, em, m0, m1, m2, m3, m4, m5, m6, m7, m8⟩ := at_T25 (Kd.C_below HR.out HG2.out.bel) (j : Int) (by omega) (by omega)
        first | subst em | obtain rfl := Option.some.inj em
        rw [rd_T25_at l j hjl, Int.toNat_natCast] at m0 m1 m2 m3 m4 m5 m6 m7 m8
        have gh0 := grown_cell h0
        have gh1 := grown_cell h1
        have gh2 := grown_cell h2
        have gh3 := grown_cell h3
        have gh4 := grown_cell h4
        have gh5 := grown_cell h5
        have gh6 := grown_cell h6
        have gh7 := grown_cell h7
        have gh8 := grown_cell h8
        have gm0 := grown_cell m0
        have gm1 := grown_cell m1
        have gm2 := grown_cell m2
        have gm3 := grown_cell m3
        have gm4 := grown_cell m4
        have gm5 := grown_cell m5
        have gm6 := grown_cell m6
        have gm7 := grown_cell m7
        have gm8 := grown_cell m8
        clear h0 h1 h2 h3 h4 h5 h6 h7 h8 m0 m1 m2 m3 m4 m5 m6 m7 m8
        have hO := fun W => rorder_grown l[j] l[i] W
        have HJ := Aside0.mk hj; have HPJ := Aside0.mk hpj
        clear hj hpj hi0
        have g1 : decide ((i : Int) > 0) = true := decide_eq_true (by have := HJ.out; omega)
        have g2 : decide (i > 0) = true := decide_eq_true (by have := HJ.out; omega)
        obtain ⟨cv, hcv⟩ : ∃ v, cmpR l[j] l[i] = v := ⟨_, rfl⟩
        rw [hcv] at hO
        have HCV := Aside0.mk hcv
        clear hcv
        by_cases hge : 0 ≤ cv
        · have d1 : decide (0 ≤ cv) = true := decide_eq_true hge
          have HGE := Aside0.mk hge
          clear hge
          go_wp2
          go_quiet_grown ((go_at_call 22; exact Calls.grown_of (hO _)))
          go_wp2
          go_ret
          refine ⟨?_, by first | exact HG2.out | (refine gbelow_step HG2.out ?_; exact gbelow_grow _ _ _)⟩
          obtain ⟨p, hp1, hp⟩ := HPJ.out
          rw [← hp, hp1, HK.out.2.2.1 _ HCC.out (by rw [HCV.out]; exact HGE.out)] <;> rfl
        · have d1 : decide (0 ≤ cv) = false := decide_eq_false hge
          have HGE := Aside0.mk hge
          clear hge
          go_wp2
          go_quiet_grown ((go_at_call 22; exact Calls.grown_of (hO _)))
          go_wp2
          go_roundg (l.length - (i + 1))
          case measure => omega
          case rel => exact ⟨i + 1, HLT.out, by omega, by go_num, ⟨gbelow_step HG2.out (gbelow_grow _ _ _)⟩, ⟨some l[i], fun _ => ⟨HLT.out, rfl⟩, fun h => absurd h (by omega), by obtain ⟨p, hp1, hp⟩ := HPJ.out; rw [hp1, HK.out.2.2.2 _ HCC.out (by rw [HCV.out]; exact HGE.out)] at hp; exact hp⟩⟩
    · have hltz : ¬ (i : Int) < (l.length : Int) := by omega
      obtain rfl : i = l.length := by omega
      go_wp2
      go_ret
      refine ⟨?_, HG.out⟩
      obtain ⟨p, _, _, hp⟩ := HP.out
      rw [List.drop_length] at hp
      rw [← hp] <;> rfl
set_option maxHeartbeats 4000000 in
set_option maxRecDepth 100000 in
theorem rin_calls (A : Option Addr) (c : Nat) (l : List S25) (x : S25) (w : World) (hC : Kd.C k25 w A l.length l) : Calls Tryz.prog 60 #[.slice A l.length c, .agg #[.int .i64 x.f0.f0, .string x.f0.f1, .string x.f0.f2, .int .i64 x.f1.f0, .string x.f1.f1, .string x.f1.f2, .int .i64 x.f2.f0, .string x.f2.f1, .string x.f2.f2]] w fun e w' => e = .returned (.bool (inR l x)) ∧ GBelow w.heap.size w w' := by
  have mixed : Tryz.prog.follows .mixedOrders = true := by kernel_rfl
  have hm := hC.2.1
  have HR := Aside0.mk hC
  have B0 : Aside0 (Box (w.alloc (.cells (celR x) 25)) w.heap.size (celR x)) := ⟨Box.new _ _ _⟩
  clear hC
  have hm2 : l.length ≤ 9223372036854775807 := by simpa [maxLen] using hm
  have HM := Aside0.mk hm2; clear hm hm2
  go_enter Tryz.func60, Tryz.ntmps60
  go_wp2
  go_loopg [5] l.length (fun gg s5 wr => ∃ i : Nat, i ≤ l.length ∧ l.length - i ≤ gg ∧ s5 = .int .i64 (i : Int) ∧ Aside0 (GBelow w.heap.size w wr) ∧ Aside0 (Box wr w.heap.size (celR x)) ∧ Aside0 (∀ j (h : j < l.length), j < i → ¬ l[j] = x))
  case atStart => exact ⟨0, Nat.zero_le _, by omega, rfl, ⟨(by repeat (first | exact GBelow.refl _ _ | refine gbelow_alloc ?_ _ | refine pw_gbelow_drewN ?_ _ | refine gbelow_drew1 ?_))⟩, B0, ⟨fun j _ h => absurd h (Nat.not_lt_zero _)⟩⟩
  case round =>
    obtain ⟨i, hi, hg, rfl, HG, B, HA⟩ := hrel
    by_cases hlt : i < l.length
    · have hltz : (i : Int) < (l.length : Int) := by omega
      have hlow : (0 : Int) ≤ (i : Int) := by omega
      have hbig : (i : Int) < 9223372036854775807 := by have := HM.out; omega
      have HLT := Aside0.mk hlt
      obtain ⟨adh, eh, h0, h1, h2, h3, h4, h5, h6, h7, h8⟩ := at_T25 (Kd.C_below HR.out HG.out.bel) (i : Int) (by omega) (by omega)
      first | subst eh | obtain rfl := Option.some.inj eh
      rw [rd_T25_at l i hlt, Int.toNat_natCast] at h0 h1 h2 h3 h4 h5 h6 h7 h8
      have k0 := B.out 0 (.int .i64 x.f0.f0) rfl
      have k1 := B.out 1 (.string x.f0.f1) rfl
      have k2 := B.out 2 (.string x.f0.f2) rfl
      have k3 := B.out 3 (.int .i64 x.f1.f0) rfl
      have k4 := B.out 4 (.string x.f1.f1) rfl
      have k5 := B.out 5 (.string x.f1.f2) rfl
      have k6 := B.out 6 (.int .i64 x.f2.f0) rfl
      have k7 := B.out 7 (.string x.f2.f1) rfl
      have k8 := B.out 8 (.string x.f2.f2) rfl
      have g0 := grown_cell h0
      have g1 := grown_cell h1
      have g2 := grown_cell h2
      have g3 := grown_cell h3
      have g4 := grown_cell h4
      have g5 := grown_cell h5
      have g6 := grown_cell h6
      have g7 := grown_cell h7
      have g8 := grown_cell h8
      have f0 := grown_cell k0
      have f1 := grown_cell k1
      have f2 := grown_cell k2
      have f3 := grown_cell k3
      have f4 := grown_cell k4
      have f5 := grown_cell k5
      have f6 := grown_cell k6
      have f7 := grown_cell k7
      have f8 := grown_cell k8
      clear h0 h1 h2 h3 h4 h5 h6 h7 h8 k0 k1 k2 k3 k4 k5 k6 k7 k8
      have hO := fun W => rorder_grown l[i] x W
      obtain ⟨cv, hcv⟩ : ∃ v, cmpR l[i] x = v := ⟨_, rfl⟩
      rw [hcv] at hO
      have HZ : Aside0 (l[i] = x ↔ cv = 0) := ⟨by rw [← hcv]; exact (lawR.zero _ _).symm⟩
      clear hcv
      by_cases hz : cv = 0
      · have hx : l[i] = x := HZ.out.2 hz
        have HX := Aside0.mk hx
        clear hx
        subst hz
        go_wp2
        go_quiet_grown ((go_at_call 22; exact Calls.grown_of (hO _)))
        go_wp2
        go_ret
        exact ⟨by rw [inR_iff.2 (HX.out ▸ List.getElem_mem HLT.out)] <;> rfl, gbelow_step HG.out (gbelow_grow _ _ _)⟩
      · have hz1 : (cv == 0) = false := by simpa using hz
        have HX : Aside0 (¬ l[i] = x) := ⟨fun h => hz (HZ.out.1 h)⟩
        clear hz
        go_wp2
        go_quiet_grown ((go_at_call 22; exact Calls.grown_of (hO _)))
        go_wp2
        go_roundg (l.length - (i + 1))
        case measure => omega
        case rel => exact ⟨i + 1, HLT.out, by omega, by go_num, ⟨gbelow_step HG.out (gbelow_grow _ _ _)⟩, ⟨Box.keep (Below.refl _ _) (grow_below _ _ _) B.out⟩, ⟨idx_succ (P := fun y => ¬ y = x) HA.out (fun _ => HX.out)⟩⟩
    · have hltz : ¬ (i : Int) < (l.length : Int) := by omega
      obtain rfl : i = l.length := by omega
      go_wp2
      go_ret
      refine ⟨?_, HG.out⟩
      have : inR l x = false := by
        rw [← Bool.not_eq_true, inR_iff]
        intro hx
        obtain ⟨j, hj, e⟩ := List.getElem_of_mem hx
        exact HA.out j hj hj e
      rw [this] <;> rfl
theorem part_snoc {l b : List S25} {is : Bool} {i : Nat} (h : i < l.length) : partR (l.take (i + 1)) b is = partR (l.take i) b is ++ (if inR b l[i] == is then [l[i]] else []) := by
  unfold partR
  rw [List.take_succ_eq_append_getElem h, List.filter_append]
  simp only [List.filter_cons, List.filter_nil]
theorem part_take_le {l b : List S25} {is : Bool} {i : Nat} : (partR (l.take i) b is).length ≤ i := Nat.le_trans (List.length_filter_le _ _) (by rw [List.length_take]; omega)
set_option maxHeartbeats 4000000 in
set_option maxRecDepth 100000 in
theorem rpart_calls (A0 : Option Addr) (c0 : Nat) (l : List S25) (A1 : Option Addr) (c1 : Nat) (b : List S25) (is : Bool) (w : World) (hr0 : Kd.C k25 w A0 l.length l) (hr1 : Kd.C k25 w A1 b.length b) (hl : l.length ≤ 1000) : Calls Tryz.prog 48 #[.slice A0 l.length c0, .slice A1 b.length c1, .bool is] w fun e w' => ∃ v, e = .returned v ∧ Kd.R k25 25 w' w.heap.size (fun _ => True) v (partR l b is) ∧ Below w.heap.size w w' := by
  have HR := Aside0.mk hr0; have HR1 := Aside0.mk hr1; clear hr0 hr1
  go_enter Tryz.func48, Tryz.ntmps48
  go_wp2
  go_loopg [7, 8, 9] l.length (fun gg s7 s8 _ wr => ∃ i : Nat, i ≤ l.length ∧ l.length - i ≤ gg ∧ s8 = .int .i64 (i : Int) ∧ Aside0 (Below w.heap.size w wr) ∧ Aside0 (Kd.R k25 25 wr w.heap.size (fun _ => True) s7 (partR (l.take i) b is)))
  case atStart => exact ⟨0, Nat.zero_le _, by omega, rfl, ⟨Below.refl _ _⟩, ⟨Kd.R_nil _ _ _ _ _⟩⟩
  case round =>
    obtain ⟨i, hi, hg, rfl, HG, HO⟩ := hrel
    by_cases hlt : i < l.length
    · have hltz : (i : Int) < (l.length : Int) := by omega
      have hlow : (0 : Int) ≤ (i : Int) := by omega
      have hbig : (i : Int) < 9223372036854775807 := by omega
      have HLT := Aside0.mk hlt
      have hle := part_take_le (l := l) (b := b) (is := is) (i := i)
      have HPS := Aside0.mk (part_snoc (b := b) (is := is) hlt)
      obtain ⟨adh, eh, h0, h1, h2, h3, h4, h5, h6, h7, h8⟩ := at_T25 (Kd.C_below HR.out HG.out) (i : Int) (by omega) (by omega)
      first | subst eh | obtain rfl := Option.some.inj eh
      rw [rd_T25_at l i hlt, Int.toNat_natCast] at h0 h1 h2 h3 h4 h5 h6 h7 h8
      have hI := fun W hC => rin_calls A1 c1 b l[i] W hC
      have HI := Aside0.mk hI
      clear hI
      obtain ⟨Ao, co, eo⟩ := Kd.R_slice HO.out
      subst eo
      generalize hm : partR (l.take i) b is = m at *
      obtain ⟨bv, hbv⟩ : ∃ v, inR b l[i] = v := ⟨_, rfl⟩
      have HBV := Aside0.mk hbv; clear hbv
      go_wp2_with (go_at_call 60; refine stop_ ?_)
      refine ⟨?_⟩
      refine (HI.out _ (Kd.C_below HR1.out (below_step HG.out (by repeat (first | exact Below.refl _ _ | refine below_alloc ?_ _ | refine pw_below_drewN ?_ _ | refine below_drew1 ?_))))).mono ?_
      rintro e w' ⟨rfl, hb⟩
      rw [HBV.out]
      replace HO := Aside0.mk (Kd.R_below HO.out hb.bel)
      replace HG := Aside0.mk (below_step HG.out hb.bel)
      clear hb h0 h1 h2 h3 h4 h5 h6 h7 h8
      obtain ⟨adh, eh, h0, h1, h2, h3, h4, h5, h6, h7, h8⟩ := at_T25 (Kd.C_below HR.out HG.out) (i : Int) (by omega) (by omega)
      first | subst eh | obtain rfl := Option.some.inj eh
      rw [rd_T25_at l i hlt, Int.toNat_natCast] at h0 h1 h2 h3 h4 h5 h6 h7 h8
      by_cases hbi : bv = is
      · subst hbi
        have hbb : (bv == bv) = true := by simp
        go_wp2_with ((with_reducible refine gate_builtin (b := .append) (xs := #[.tmp 25, .tmp 30]) rfl ?_); at_builtin; refine stop_ ?_)
        refine ⟨?_⟩
        refine Kd.R_append_rows k25 (w0 := w) w.heap.size rfl (.tmp 25) (.tmp 30) 26 25 _ 120 rfl Tryz.underlying26 xinfoT rfl (by decide) (by omega) (.slice Ao m.length co) m [l[i]] _ _ _ (fun _ => True) (fun _ => False) rfl rfl (Kd.R_alloc HO.out _) (row_one _ _) (fun _ _ h => h) (fun _ h => h.elim) (fun _ _ => trivial) (below_alloc HG.out _) (below_alloc HG.out _).size ?aL ?_
        case aL => first | omega | (simp; omega)
        intro v1 w1 ho hb hg hat
        have HO1 := Aside0.mk ho
        have HB3 := Aside0.mk hb
        clear ho hb hg hat h0 h1 h2 h3 h4 h5 h6 h7 h8
        go_wp2
        go_roundg (l.length - (i + 1))
        case measure => omega
        case rel => exact ⟨i + 1, HLT.out, by omega, by go_num, HB3, ⟨by rw [HPS.out, HBV.out, if_pos (by simp)]; exact HO1.out⟩⟩
      · have hbb : (bv == is) = false := by simpa using hbi
        go_wp2
        go_roundg (l.length - (i + 1))
        case measure => omega
        case rel => exact ⟨i + 1, HLT.out, by omega, by go_num, HG, ⟨by rw [HPS.out, HBV.out, hbb, if_neg (by decide), List.append_nil]; exact HO.out⟩⟩
    · have hltz : ¬ (i : Int) < (l.length : Int) := by omega
      obtain rfl : i = l.length := by omega
      obtain ⟨Ao, co, eo⟩ := Kd.R_slice HO.out
      subst eo
      go_wp2
      go_ret
      have ho := HO.out
      rw [List.take_length] at ho
      exact ⟨_, rfl, by first | exact ho | (rw [List.take_length]; exact ho), HG.out⟩
set_option maxHeartbeats 4000000 in
set_option maxRecDepth 100000 in
theorem rtwo_calls (A0 : Option Addr) (c0 : Nat) (l0 : List S25) (A1 : Option Addr) (c1 : Nat) (l1 : List S25) (w : World) (hr0 : Kd.C k25 w A0 l0.length l0) (hr1 : Kd.C k25 w A1 l1.length l1) : Calls Tryz.prog 47 #[.slice A0 l0.length c0, .slice A1 l1.length c1] w fun e w' => e = .returned (.int .i64 (codeE (right2 l0 l1))) ∧ GBelow w.heap.size w w' := by
  have h0 := fun W hC => rset_calls A0 c0 l0 W hC
  have h1 := fun W hC => rset_calls A1 c1 l1 W hC
  have HR0 := Aside0.mk hr0; have HR1 := Aside0.mk hr1; clear hr0 hr1
  cases hc : sortedR l0 with
  | some n =>
    have n0 : (n == 0) = false := by simpa using sortedR_ne hc
    rw [show right2 l0 l1 = some n by unfold right2; rw [hc]]
    rw [hc] at h0
    simp only [codeE_some] at h0
    have H0 := Aside0.mk h0; have H1 := Aside0.mk h1; clear h0 h1 hc
    go_enter Tryz.func47, Tryz.ntmps47
    go_wp2_with (go_at_call 17; refine stop_ ?_)
    refine ⟨?_⟩
    refine (H0.out _ HR0.out).mono ?_
    rintro e w' ⟨rfl, hb⟩
    have HB := Aside0.mk hb; clear hb
    go_wp2
    go_ret
    exact ⟨rfl, HB.out⟩
  | none =>
    rw [show right2 l0 l1 = sortedR l1 by unfold right2; rw [hc]]
    rw [hc] at h0
    simp only [codeE_none] at h0
    have H0 := Aside0.mk h0; have H1 := Aside0.mk h1; clear h0 h1 hc
    go_enter Tryz.func47, Tryz.ntmps47
    go_wp2_with (go_at_call 17; refine stop_ ?_)
    refine ⟨?_⟩
    refine (H0.out _ HR0.out).mono ?_
    rintro e w' ⟨rfl, hb⟩
    have HB := Aside0.mk hb; clear hb
    go_wp2_with (go_at_call 17; refine stop_ ?_)
    refine ⟨?_⟩
    refine (H1.out _ (Kd.C_below HR1.out HB.out.bel)).mono ?_
    rintro e w' ⟨rfl, hb⟩
    have HB2 := Aside0.mk (gbelow_step HB.out hb); clear hb
    go_wp2
    go_ret
    exact ⟨rfl, HB2.out⟩
end Go.Proofs.YtdjamphmndbmjaaGreatDoor.M

/- strataref1's Sorted and Union: a list as a set (printed by wip/gen_r4.py). -/
namespace Go.Proofs.YtdjamphmndbmjaaGreatDoor.M
open Go.RowKit Go.Proofs.YtdjamphmndbmjaaGreatDoorW.PrintWords Go.Proofs.YtdjamphmndbmjaaGreatDoorW.PrintLast Go.Proofs.YtdjamphmndbmjaaGreatDoorW.PrintMore
set_option linter.unusedVariables false
set_option linter.unusedSimpArgs false

open Go.Sort
theorem grow_step {w W : World} (h : Below w.heap.size w W) (n : Nat) (os : Array Obj) : Below w.heap.size w (grow (W.drewN n) os) := below_step h (grow_below W n os)
theorem row_at (W : World) (x : S25) (n : Nat) (hn : n = W.heap.size) : Kd.C k25 (W.alloc (.cells (celR x) 25)) (some ⟨n, 0, none⟩) 1 [x] := by subst hn; exact row_one W x
/-- A list as a set. -/
def setL (l : List S25) : List S25 := unionR l []
theorem mem_setL {l : List S25} {y : S25} : y ∈ setL l ↔ y ∈ l := by unfold setL; rw [mem_unionR]; simp
theorem strict_setL (l : List S25) : Strict (setL l) := strict_unionR _ _
theorem setL_is {l m : List S25} (hs : Strict m) (hm : ∀ y, y ∈ m ↔ y ∈ l) : m = setL l := strict_ext hs (strict_setL _) fun y => by rw [hm, mem_setL]
theorem setL_union (a b : List S25) : setL (a ++ b) = unionR a b := strict_ext (strict_setL _) (strict_unionR _ _) fun y => by rw [mem_setL, mem_unionR, List.mem_append]
set_option maxHeartbeats 8000000 in
set_option maxRecDepth 100000 in
theorem rsorted_calls (A : Option Addr) (c : Nat) (l : List S25) (w : World) (hC : Kd.C k25 w A l.length l) (hl : l.length ≤ 1000) : Calls Tryz.prog 18 #[.slice A l.length c] w fun e w' => ∃ v, e = .returned v ∧ Kd.R k25 25 w' w.heap.size (fun _ => True) v (setL l) ∧ Below w.heap.size w w' := by
  have mixed : Tryz.prog.follows .mixedOrders = true := by kernel_rfl
  have HR := Aside0.mk hC; clear hC
  go_enter Tryz.func18, Tryz.ntmps18
  go_wp2
  go_loopg [3, 4, 5, 6] l.length (fun gg s3 s4 _ _ wr => ∃ i : Nat, i ≤ l.length ∧ l.length - i ≤ gg ∧ s4 = .int .i64 (i : Int) ∧ Aside0 (Below w.heap.size w wr) ∧ ∃ m : List S25, m.length ≤ i ∧ Aside0 (Kd.R k25 25 wr w.heap.size (fun _ => True) s3 m) ∧ Aside0 (Strict m ∧ ∀ y, y ∈ m ↔ y ∈ l.take i))
  case atStart => exact ⟨0, Nat.zero_le _, by omega, rfl, ⟨Below.refl _ _⟩, [], Nat.le_refl _, ⟨Kd.R_nil _ _ _ _ _⟩, ⟨strict_nil, fun y => by simp⟩⟩
  case round =>
    obtain ⟨i, hi, hg, rfl, HG, m, hmi, HO, HM⟩ := hrel
    obtain ⟨Ao, co, eo⟩ := Kd.R_slice HO.out
    subst eo
    by_cases hlt : i < l.length
    · have hltz : (i : Int) < (l.length : Int) := by omega
      have hlow : (0 : Int) ≤ (i : Int) := by omega
      have hbig : (i : Int) < 9223372036854775807 := by omega
      have hmb : (m.length : Int) ≤ 1000 := by omega
      have HLT := Aside0.mk hlt
      go_wp2
      obtain ⟨wo, rfl⟩ : ∃ wo : World, wo = wr := ⟨_, rfl⟩
      go_loopg [5] m.length (fun g2 s5 w2 => ∃ k : Nat, k ≤ m.length ∧ k ≤ g2 ∧ s5 = .int .i64 (k : Int) ∧ Aside0 (GBelow wo.heap.size wo w2) ∧ Aside0 (∀ j (h : j < m.length), k ≤ j → 0 < cmpR m[j] l[i]))
      case atStart => exact ⟨m.length, Nat.le_refl _, Nat.le_refl _, rfl, ⟨GBelow.refl _ _⟩, ⟨fun j h hk => absurd h (by omega)⟩⟩
      case round =>
        obtain ⟨k, hk, hkg, rfl, HB2, HHI⟩ := hrel
        replace HO := Aside0.mk (Kd.R_below HO.out HB2.out.bel)
        replace HG := Aside0.mk (below_step HG.out HB2.out.bel)
        by_cases hk0 : k = 0
        · have HLO : Aside0 (∀ j (h : j < m.length), j < k → cmpR m[j] l[i] < 0) := ⟨fun j _ h => absurd h (by omega)⟩
          have g1 : decide ((k : Int) > 0) = false := decide_eq_false (by omega)
          have g2 : decide (k > 0) = false := decide_eq_false (by omega)
          have g3 : decide ((0 : Int) < (k : Int)) = false := decide_eq_false (by omega)
          clear hk0
          go_wp2
          go_quiet (fail)
          go_wp2
          go_quiet (fail)
          have HNEW : Aside0 (Strict (m.take k ++ l[i] :: m.drop k) ∧ ∀ y, y ∈ m.take k ++ l[i] :: m.drop k ↔ y ∈ l.take (i + 1)) := ⟨strict_insert HM.out.1 HLO.out HHI.out, fun y => by rw [mem_insert, HM.out.2, mem_take_succ HLT.out]⟩
          go_wp2_with ((with_reducible refine gate_builtin (b := .append) (xs := #[.tmp 47, .tmp 49]) rfl ?_); at_builtin; refine stop_ ?_)
          refine ⟨?_⟩
          refine Kd.R_append_rows k25 (w0 := w) w.heap.size rfl (.tmp 47) (.tmp 49) 26 25 _ 120 rfl Tryz.underlying26 xinfoT rfl (by decide) (by omega) _ m [z25] _ _ _ (fun _ => True) (fun _ => False) rfl rfl (Kd.R_alloc (Kd.R_below HO.out (by repeat (first | exact Below.refl _ _ | refine below_alloc ?_ _ | refine pw_below_drewN ?_ _ | refine below_drew1 ?_ | refine grow_step ?_ _ _))) _) (row_at _ z25 _ (by first | rfl | simp [grow, World.drewN, Nat.add_assoc])) (fun _ _ h => h) (fun _ h => h.elim) (fun _ _ => trivial) (below_alloc (below_step HG.out (by repeat (first | exact Below.refl _ _ | refine below_alloc ?_ _ | refine pw_below_drewN ?_ _ | refine below_drew1 ?_ | refine grow_step ?_ _ _))) _) (below_alloc (below_step HG.out (by repeat (first | exact Below.refl _ _ | refine below_alloc ?_ _ | refine pw_below_drewN ?_ _ | refine below_drew1 ?_ | refine grow_step ?_ _ _))) _).size ?aL ?_
          case aL => first | omega | (simp; omega)
          intro v1 w1 ho hb hgr hat
          have HO1 := Aside0.mk ho
          have HB3 := Aside0.mk hb
          clear ho hb hgr hat HO HG HB2
          obtain ⟨A1, c1, ev⟩ := Kd.R_slice HO1.out
          rw [List.length_append, List.length_singleton] at ev
          subst ev
          obtain ⟨ga, hga⟩ : ∃ ga, A1 = some ⟨ga, 0, none⟩ := by
            obtain ⟨_, inner, ho, _⟩ := HO1.out
            rcases ho.2 with ⟨hv, h0⟩ | ⟨g, cap', cur, hv, _⟩
            · rw [List.length_append, List.length_singleton] at h0; omega
            · injection hv with ha _ _; exact ⟨g, ha⟩
          subst hga
          have hmc : ((m.length + 1 : Nat) : Int) = (m.length : Int) + 1 := by omega
          go_wp2
          go_loopg [6] m.length (fun g3 s6 w3 => ∃ j : Nat, k ≤ j ∧ j ≤ m.length ∧ j - k ≤ g3 ∧ s6 = .int .i64 (j : Int) ∧ Aside0 (Below w.heap.size w w3) ∧ ∃ y, Aside0 (Kd.R k25 25 w3 w.heap.size (fun _ => True) (.slice (some ⟨ga, 0, none⟩) (m.length + 1) c1) (m.take j ++ y :: m.drop j)))
          case atStart => exact ⟨m.length, hk, Nat.le_refl _, by omega, by go_num, HB3, z25, ⟨by rw [List.take_length, List.drop_length]; exact HO1.out⟩⟩
          case round =>
            obtain ⟨j, hkj, hjm, hjg, rfl, HB4, y, HO4⟩ := hrel
            clear HB3 HO1
            by_cases hjk : k < j
            · have hjz : (k : Int) < (j : Int) := by omega
              obtain ⟨q, hq⟩ : ∃ q, q + 1 = j := ⟨j - 1, by omega⟩
              have hw : IntKind.i64.wrap ((j : Int) - 1) = (q : Int) := by rw [i64_wrap_id _ (by omega) (by omega)]; omega
              have hq0 : (0 : Int) ≤ (q : Int) := by omega
              have hqz : (q : Int) < ((m.length + 1 : Nat) : Int) := by omega
              have hqz2 : (q : Int) < (m.length : Int) + 1 := by omega
              have hjb : (j : Int) < (m.length : Int) + 1 := by omega
              have hjb2 : (j : Int) < ((m.length + 1 : Nat) : Int) := by omega
              have hj0 : (0 : Int) ≤ (j : Int) := by omega
              have hql : q < m.length := by omega
              have hlen : (m.take j ++ y :: m.drop j).length = m.length + 1 := by simp; omega
              have hgq : (m.take j ++ y :: m.drop j)[q]'(by omega) = m[q] := by
                have h := shift_get (m := m) (y := y) (j := j) (by omega) hjm
                have e : j - 1 = q := by omega
                simp only [e] at h
                exact Option.some.inj ((List.getElem?_eq_getElem (by omega)).symm.trans h)
              obtain ⟨s0, s1, s2, s3, s4, s5, s6, s7, s8⟩ := own_cells_at HO4.out q (q * 9) m[q] (by omega) rfl hgq
              obtain ⟨t0, t1, t2, t3, t4, t5, t6, t7, t8⟩ := own_cells_at HO4.out j (j * 9) y (by omega) rfl (by simp [List.getElem_append_right, List.length_take, hjm])
              have HS1 := Aside0.mk (And.intro t0 (And.intro t1 (And.intro t2 (And.intro t3 (And.intro t4 (And.intro t5 (And.intro t6 (And.intro t7 t8))))))))
              clear t0 t1 t2 t3 t4 t5 t6 t7 t8
              have HQ := Aside0.mk hq; have HQL := Aside0.mk hql; have HLEN := Aside0.mk hlen
              have HSH : Aside0 ((m.take j ++ y :: m.drop j).set j m[q] = m.take q ++ m[q] :: m.drop q) := ⟨by
                have h := shift_one (m := m) (y := y) (j := j) (by omega) hjm m[q] (by congr 1; omega)
                rw [h]
                have e : j - 1 = q := by omega
                rw [e]⟩
              clear hq hlen hgq
              skip
              go_wp2_with ((with_reducible refine gate_store rfl ?_); refine stop_ ?_)
              refine ⟨?_⟩
              refine Kd.R_store k25 (w0 := w) (o' := j * 9) w.heap.size rfl rfl 25 (.tmp 66) (.tmp 65) rfl 25 (j : Int) 0 (m.take j ++ y :: m.drop j) m[q] (aggR m[q]) (celR m[q]).toList (celR y).toList (fun _ => True) (fun _ => False) rfl rfl rfl rfl ?at_ ?a1 HO4.out ?a0 ?ai rfl ?acc ?aj ?aM (fun _ h => h.elim) HB4.out ?_
              case at_ => obtain ⟨i, hi, hz⟩ := Option.map_eq_some_iff.1 xinfoT; have h0 := congrArg (fun q => q.2.1) hz; rw [hi]; exact congrArg some h0
              case a1 => intro q hq; simp only [celR, List.mem_cons, List.not_mem_nil, or_false] at hq; rcases hq with rfl | rfl | rfl | rfl | rfl | rfl | rfl | rfl | rfl <;> rfl
              case a0 => omega
              case ai => omega
              case acc =>
                obtain ⟨s0, s1, s2, s3, s4, s5, s6, s7, s8⟩ := HS1.out
                intro j u hu
                rw [Int.toNat_natCast]
                rcases j with _ | _ | _ | _ | _ | _ | _ | _ | _ | j
                · exact s0.trans hu
                · exact s1.trans hu
                · exact s2.trans hu
                · exact s3.trans hu
                · exact s4.trans hu
                · exact s5.trans hu
                · exact s6.trans hu
                · exact s7.trans hu
                · exact s8.trans hu
                · cases hu
              case aj => exact Nat.le_refl _
              case aM => exact k25_mkM _ _ _ m[q]
              intro w3 hM3 hB3 hg3
              rw [Int.toNat_natCast, HSH.out] at hM3
              have HO5 := Aside0.mk hM3
              have HB5 := Aside0.mk hB3
              clear hM3 hB3 hg3 s0 s1 s2 s3 s4 s5 s6 s7 s8
              go_wp2
              go_roundg (q - k)
              case measure => have := HQ.out; omega
              case rel => exact ⟨q, by have := HQ.out; omega, by omega, Nat.le_refl _, by first | rfl | go_num | (congr 1; have := HQ.out; omega), HB5, m[q], HO5⟩
            · have hjz : ¬ (k : Int) < (j : Int) := by omega
              obtain rfl : j = k := by omega
              obtain ⟨adh, eh, h0, h1, h2, h3, h4, h5, h6, h7, h8⟩ := at_T25 (Kd.C_below HR.out HB4.out) (i : Int) (by omega) (by omega)
              first | subst eh | obtain rfl := Option.some.inj eh
              rw [rd_T25_at l i HLT.out, Int.toNat_natCast] at h0 h1 h2 h3 h4 h5 h6 h7 h8
              have hjb : (j : Int) < (m.length : Int) + 1 := by omega
              have hjb2 : (j : Int) < ((m.length + 1 : Nat) : Int) := by omega
              have hj0 : (0 : Int) ≤ (j : Int) := by omega
              have hlen : (m.take j ++ y :: m.drop j).length = m.length + 1 := by simp; omega
              obtain ⟨t0, t1, t2, t3, t4, t5, t6, t7, t8⟩ := own_cells_at HO4.out j (j * 9) y (by omega) rfl (by simp [List.getElem_append_right, List.length_take, hjm])
              have HS1 := Aside0.mk (And.intro t0 (And.intro t1 (And.intro t2 (And.intro t3 (And.intro t4 (And.intro t5 (And.intro t6 (And.intro t7 t8))))))))
              clear t0 t1 t2 t3 t4 t5 t6 t7 t8 hlen
              go_wp2_with ((with_reducible refine gate_store rfl ?_); refine stop_ ?_)
              refine ⟨?_⟩
              refine Kd.R_store k25 (w0 := w) (o' := j * 9) w.heap.size rfl rfl 25 (.tmp 73) (.tmp 72) rfl 25 (j : Int) 0 (m.take j ++ y :: m.drop j) l[i] (aggR l[i]) (celR l[i]).toList (celR y).toList (fun _ => True) (fun _ => False) rfl rfl rfl rfl ?at_ ?a1 HO4.out ?a0 ?ai rfl ?acc ?aj ?aM (fun _ h => h.elim) HB4.out ?_
              case at_ => obtain ⟨i, hi, hz⟩ := Option.map_eq_some_iff.1 xinfoT; have h0 := congrArg (fun q => q.2.1) hz; rw [hi]; exact congrArg some h0
              case a1 => intro q hq; simp only [celR, List.mem_cons, List.not_mem_nil, or_false] at hq; rcases hq with rfl | rfl | rfl | rfl | rfl | rfl | rfl | rfl | rfl <;> rfl
              case a0 => omega
              case ai => omega
              case acc =>
                obtain ⟨s0, s1, s2, s3, s4, s5, s6, s7, s8⟩ := HS1.out
                intro j u hu
                rw [Int.toNat_natCast]
                rcases j with _ | _ | _ | _ | _ | _ | _ | _ | _ | j
                · exact s0.trans hu
                · exact s1.trans hu
                · exact s2.trans hu
                · exact s3.trans hu
                · exact s4.trans hu
                · exact s5.trans hu
                · exact s6.trans hu
                · exact s7.trans hu
                · exact s8.trans hu
                · cases hu
              case aj => exact Nat.le_refl _
              case aM => exact k25_mkM _ _ _ l[i]
              intro w3 hM3 hB3 hg3
              rw [Int.toNat_natCast, place_set hjm] at hM3
              have HO5 := Aside0.mk hM3
              have HB5 := Aside0.mk hB3
              clear hM3 hB3 hg3 h0 h1 h2 h3 h4 h5 h6 h7 h8
              go_wp2
              go_roundg (l.length - (i + 1))
              case measure => have := HLT.out; omega
              case rel => exact ⟨i + 1, HLT.out, by omega, by go_num, HB5, _, by simp; omega, HO5, HNEW⟩
        · obtain ⟨j, hj⟩ : ∃ j, j + 1 = k := ⟨k - 1, by omega⟩
          have hjl : j < m.length := by omega
          have hw : IntKind.i64.wrap ((k : Int) - 1) = (j : Int) := by rw [i64_wrap_id _ (by omega) (by omega)]; omega
          have hj0 : (0 : Int) ≤ (j : Int) := by omega
          have hjz : (j : Int) < (m.length : Int) := by omega
          have hk1 : (1 : Int) ≤ (k : Int) := by omega
          obtain ⟨adh, eh, h0, h1, h2, h3, h4, h5, h6, h7, h8⟩ := at_T25 (Kd.C_below HR.out HG.out) (i : Int) (by omega) (by omega)
          first | subst eh | obtain rfl := Option.some.inj eh
          rw [rd_T25_at l i hlt, Int.toNat_natCast] at h0 h1 h2 h3 h4 h5 h6 h7 h8
          obtain ⟨adn, en, n0, n1, n2, n3, n4, n5, n6, n7, n8⟩ := at_T25 ((Kd.R_reads' HO.out).2.2) (j : Int) (by omega) (by omega)
          first | subst en | obtain rfl := Option.some.inj en
          rw [rd_T25_at m j hjl, Int.toNat_natCast] at n0 n1 n2 n3 n4 n5 n6 n7 n8
          have gh0 := grown_cell h0; have ggh0 := fun n os => grown_cell (gh0 n os); have gh1 := grown_cell h1; have ggh1 := fun n os => grown_cell (gh1 n os); have gh2 := grown_cell h2; have ggh2 := fun n os => grown_cell (gh2 n os); have gh3 := grown_cell h3; have ggh3 := fun n os => grown_cell (gh3 n os); have gh4 := grown_cell h4; have ggh4 := fun n os => grown_cell (gh4 n os); have gh5 := grown_cell h5; have ggh5 := fun n os => grown_cell (gh5 n os); have gh6 := grown_cell h6; have ggh6 := fun n os => grown_cell (gh6 n os); have gh7 := grown_cell h7; have ggh7 := fun n os => grown_cell (gh7 n os); have gh8 := grown_cell h8; have ggh8 := fun n os => grown_cell (gh8 n os)
          clear h0 h1 h2 h3 h4 h5 h6 h7 h8
          have gn0 := grown_cell n0; have ggn0 := fun n os => grown_cell (gn0 n os); have gn1 := grown_cell n1; have ggn1 := fun n os => grown_cell (gn1 n os); have gn2 := grown_cell n2; have ggn2 := fun n os => grown_cell (gn2 n os); have gn3 := grown_cell n3; have ggn3 := fun n os => grown_cell (gn3 n os); have gn4 := grown_cell n4; have ggn4 := fun n os => grown_cell (gn4 n os); have gn5 := grown_cell n5; have ggn5 := fun n os => grown_cell (gn5 n os); have gn6 := grown_cell n6; have ggn6 := fun n os => grown_cell (gn6 n os); have gn7 := grown_cell n7; have ggn7 := fun n os => grown_cell (gn7 n os); have gn8 := grown_cell n8; have ggn8 := fun n os => grown_cell (gn8 n os)
          clear n0 n1 n2 n3 n4 n5 n6 n7 n8
          have hO := fun W => rorder_grown m[j] l[i] W
          have HJ := Aside0.mk hj; clear hj hk0
          have g1 : decide ((k : Int) > 0) = true := decide_eq_true (by have := HJ.out; omega)
          have g2 : decide (k > 0) = true := decide_eq_true (by have := HJ.out; omega)
          obtain ⟨cv, hcv⟩ : ∃ v, cmpR m[j] l[i] = v := ⟨_, rfl⟩
          rw [hcv] at hO
          have HCV := Aside0.mk hcv; clear hcv
          by_cases hgt : 0 < cv
          · have d1 : decide (cv > 0) = true := decide_eq_true hgt
            have HGT := Aside0.mk hgt; clear hgt
            go_wp2
            go_quiet_grown ((go_at_call 22; exact Calls.grown_of (hO _)))
            go_wp2
            go_roundg j
            case measure => have := HJ.out; omega
            case rel => exact ⟨j, by omega, Nat.le_refl _, by first | rfl | go_num | (congr 1; have := HJ.out; omega), ⟨gbelow_step HB2.out (gbelow_grow _ _ _)⟩, ⟨fun q hq hjq => by
              rcases Nat.eq_or_lt_of_le hjq with rfl | h
              · rw [HCV.out]; exact HGT.out
              · exact HHI.out q hq (by have := HJ.out; omega)⟩⟩
          · have d1 : decide (cv > 0) = false := decide_eq_false hgt
            by_cases hz : cv = 0
            · subst hz
              clear hgt
              go_wp2
              go_quiet_grown ((go_at_call 22; exact Calls.grown_of (hO _)))
              go_wp2
              go_quiet_grown ((go_at_call 22; exact Calls.grown_of (hO _)))
              go_wp2
              go_roundg (l.length - (i + 1))
              case measure => have := HLT.out; omega
              case rel => exact ⟨i + 1, HLT.out, by omega, by go_num, ⟨below_step (below_step HG.out (grow_below _ _ _)) (grow_below _ _ _)⟩, m, by omega, ⟨Kd.R_below (Kd.R_below HO.out (grow_below _ _ _)) (grow_below _ _ _)⟩, ⟨HM.out.1, fun y => by
                rw [HM.out.2, mem_take_succ HLT.out]
                constructor
                · exact .inl
                · rintro (h | rfl)
                  · exact h
                  · rw [← HM.out.2, ← (lawR.zero _ _).1 HCV.out]; exact List.getElem_mem hjl⟩⟩
            · have z1 : (cv == 0) = false := by simpa using hz
              have HLO : Aside0 (∀ j (h : j < m.length), j < k → cmpR m[j] l[i] < 0) := ⟨strict_below HM.out.1 fun _ => by
                have e : k - 1 = j := by have := HJ.out; omega
                exact ⟨by omega, by simp only [e]; rw [HCV.out]; omega⟩⟩
              clear hz hgt
              go_wp2
              go_quiet_grown ((go_at_call 22; exact Calls.grown_of (hO _)))
              go_wp2
              go_quiet_grown ((go_at_call 22; exact Calls.grown_of (hO _)))
              skip
              have HNEW : Aside0 (Strict (m.take k ++ l[i] :: m.drop k) ∧ ∀ y, y ∈ m.take k ++ l[i] :: m.drop k ↔ y ∈ l.take (i + 1)) := ⟨strict_insert HM.out.1 HLO.out HHI.out, fun y => by rw [mem_insert, HM.out.2, mem_take_succ HLT.out]⟩
              go_wp2_with ((with_reducible refine gate_builtin (b := .append) (xs := #[.tmp 47, .tmp 49]) rfl ?_); at_builtin; refine stop_ ?_)
              refine ⟨?_⟩
              refine Kd.R_append_rows k25 (w0 := w) w.heap.size rfl (.tmp 47) (.tmp 49) 26 25 _ 120 rfl Tryz.underlying26 xinfoT rfl (by decide) (by omega) _ m [z25] _ _ _ (fun _ => True) (fun _ => False) rfl rfl (Kd.R_alloc (Kd.R_below HO.out (by repeat (first | exact Below.refl _ _ | refine below_alloc ?_ _ | refine pw_below_drewN ?_ _ | refine below_drew1 ?_ | refine grow_step ?_ _ _))) _) (row_at _ z25 _ (by first | rfl | simp [grow, World.drewN, Nat.add_assoc])) (fun _ _ h => h) (fun _ h => h.elim) (fun _ _ => trivial) (below_alloc (below_step HG.out (by repeat (first | exact Below.refl _ _ | refine below_alloc ?_ _ | refine pw_below_drewN ?_ _ | refine below_drew1 ?_ | refine grow_step ?_ _ _))) _) (below_alloc (below_step HG.out (by repeat (first | exact Below.refl _ _ | refine below_alloc ?_ _ | refine pw_below_drewN ?_ _ | refine below_drew1 ?_ | refine grow_step ?_ _ _))) _).size ?aL ?_
              case aL => first | omega | (simp; omega)
              intro v1 w1 ho hb hgr hat
              have HO1 := Aside0.mk ho
              have HB3 := Aside0.mk hb
              clear ho hb hgr hat HO HG HB2
              obtain ⟨A1, c1, ev⟩ := Kd.R_slice HO1.out
              rw [List.length_append, List.length_singleton] at ev
              subst ev
              obtain ⟨ga, hga⟩ : ∃ ga, A1 = some ⟨ga, 0, none⟩ := by
                obtain ⟨_, inner, ho, _⟩ := HO1.out
                rcases ho.2 with ⟨hv, h0⟩ | ⟨g, cap', cur, hv, _⟩
                · rw [List.length_append, List.length_singleton] at h0; omega
                · injection hv with ha _ _; exact ⟨g, ha⟩
              subst hga
              have hmc : ((m.length + 1 : Nat) : Int) = (m.length : Int) + 1 := by omega
              go_wp2
              go_loopg [6] m.length (fun g3 s6 w3 => ∃ j : Nat, k ≤ j ∧ j ≤ m.length ∧ j - k ≤ g3 ∧ s6 = .int .i64 (j : Int) ∧ Aside0 (Below w.heap.size w w3) ∧ ∃ y, Aside0 (Kd.R k25 25 w3 w.heap.size (fun _ => True) (.slice (some ⟨ga, 0, none⟩) (m.length + 1) c1) (m.take j ++ y :: m.drop j)))
              case atStart => exact ⟨m.length, hk, Nat.le_refl _, by omega, by go_num, HB3, z25, ⟨by rw [List.take_length, List.drop_length]; exact HO1.out⟩⟩
              case round =>
                obtain ⟨j, hkj, hjm, hjg, rfl, HB4, y, HO4⟩ := hrel
                clear HB3 HO1
                by_cases hjk : k < j
                · have hjz : (k : Int) < (j : Int) := by omega
                  obtain ⟨q, hq⟩ : ∃ q, q + 1 = j := ⟨j - 1, by omega⟩
                  have hw : IntKind.i64.wrap ((j : Int) - 1) = (q : Int) := by rw [i64_wrap_id _ (by omega) (by omega)]; omega
                  have hq0 : (0 : Int) ≤ (q : Int) := by omega
                  have hqz : (q : Int) < ((m.length + 1 : Nat) : Int) := by omega
                  have hqz2 : (q : Int) < (m.length : Int) + 1 := by omega
                  have hjb : (j : Int) < (m.length : Int) + 1 := by omega
                  have hjb2 : (j : Int) < ((m.length + 1 : Nat) : Int) := by omega
                  have hj0 : (0 : Int) ≤ (j : Int) := by omega
                  have hql : q < m.length := by omega
                  have hlen : (m.take j ++ y :: m.drop j).length = m.length + 1 := by simp; omega
                  have hgq : (m.take j ++ y :: m.drop j)[q]'(by omega) = m[q] := by
                    have h := shift_get (m := m) (y := y) (j := j) (by omega) hjm
                    have e : j - 1 = q := by omega
                    simp only [e] at h
                    exact Option.some.inj ((List.getElem?_eq_getElem (by omega)).symm.trans h)
                  obtain ⟨s0, s1, s2, s3, s4, s5, s6, s7, s8⟩ := own_cells_at HO4.out q (q * 9) m[q] (by omega) rfl hgq
                  obtain ⟨t0, t1, t2, t3, t4, t5, t6, t7, t8⟩ := own_cells_at HO4.out j (j * 9) y (by omega) rfl (by simp [List.getElem_append_right, List.length_take, hjm])
                  have HS1 := Aside0.mk (And.intro t0 (And.intro t1 (And.intro t2 (And.intro t3 (And.intro t4 (And.intro t5 (And.intro t6 (And.intro t7 t8))))))))
                  clear t0 t1 t2 t3 t4 t5 t6 t7 t8
                  have HQ := Aside0.mk hq; have HQL := Aside0.mk hql; have HLEN := Aside0.mk hlen
                  have HSH : Aside0 ((m.take j ++ y :: m.drop j).set j m[q] = m.take q ++ m[q] :: m.drop q) := ⟨by
                    have h := shift_one (m := m) (y := y) (j := j) (by omega) hjm m[q] (by congr 1; omega)
                    rw [h]
                    have e : j - 1 = q := by omega
                    rw [e]⟩
                  clear hq hlen hgq
                  skip
                  go_wp2_with ((with_reducible refine gate_store rfl ?_); refine stop_ ?_)
                  refine ⟨?_⟩
                  refine Kd.R_store k25 (w0 := w) (o' := j * 9) w.heap.size rfl rfl 25 (.tmp 66) (.tmp 65) rfl 25 (j : Int) 0 (m.take j ++ y :: m.drop j) m[q] (aggR m[q]) (celR m[q]).toList (celR y).toList (fun _ => True) (fun _ => False) rfl rfl rfl rfl ?at_ ?a1 HO4.out ?a0 ?ai rfl ?acc ?aj ?aM (fun _ h => h.elim) HB4.out ?_
                  case at_ => obtain ⟨i, hi, hz⟩ := Option.map_eq_some_iff.1 xinfoT; have h0 := congrArg (fun q => q.2.1) hz; rw [hi]; exact congrArg some h0
                  case a1 => intro q hq; simp only [celR, List.mem_cons, List.not_mem_nil, or_false] at hq; rcases hq with rfl | rfl | rfl | rfl | rfl | rfl | rfl | rfl | rfl <;> rfl
                  case a0 => omega
                  case ai => omega
                  case acc =>
                    obtain ⟨s0, s1, s2, s3, s4, s5, s6, s7, s8⟩ := HS1.out
                    intro j u hu
                    rw [Int.toNat_natCast]
                    rcases j with _ | _ | _ | _ | _ | _ | _ | _ | _ | j
                    · exact s0.trans hu
                    · exact s1.trans hu
                    · exact s2.trans hu
                    · exact s3.trans hu
                    · exact s4.trans hu
                    · exact s5.trans hu
                    · exact s6.trans hu
                    · exact s7.trans hu
                    · exact s8.trans hu
                    · cases hu
                  case aj => exact Nat.le_refl _
                  case aM => exact k25_mkM _ _ _ m[q]
                  intro w3 hM3 hB3 hg3
                  rw [Int.toNat_natCast, HSH.out] at hM3
                  have HO5 := Aside0.mk hM3
                  have HB5 := Aside0.mk hB3
                  clear hM3 hB3 hg3 s0 s1 s2 s3 s4 s5 s6 s7 s8
                  go_wp2
                  go_roundg (q - k)
                  case measure => have := HQ.out; omega
                  case rel => exact ⟨q, by have := HQ.out; omega, by omega, Nat.le_refl _, by first | rfl | go_num | (congr 1; have := HQ.out; omega), HB5, m[q], HO5⟩
                · have hjz : ¬ (k : Int) < (j : Int) := by omega
                  obtain rfl : j = k := by omega
                  obtain ⟨adh, eh, h0, h1, h2, h3, h4, h5, h6, h7, h8⟩ := at_T25 (Kd.C_below HR.out HB4.out) (i : Int) (by omega) (by omega)
                  first | subst eh | obtain rfl := Option.some.inj eh
                  rw [rd_T25_at l i HLT.out, Int.toNat_natCast] at h0 h1 h2 h3 h4 h5 h6 h7 h8
                  have hjb : (j : Int) < (m.length : Int) + 1 := by omega
                  have hjb2 : (j : Int) < ((m.length + 1 : Nat) : Int) := by omega
                  have hj0 : (0 : Int) ≤ (j : Int) := by omega
                  have hlen : (m.take j ++ y :: m.drop j).length = m.length + 1 := by simp; omega
                  obtain ⟨t0, t1, t2, t3, t4, t5, t6, t7, t8⟩ := own_cells_at HO4.out j (j * 9) y (by omega) rfl (by simp [List.getElem_append_right, List.length_take, hjm])
                  have HS1 := Aside0.mk (And.intro t0 (And.intro t1 (And.intro t2 (And.intro t3 (And.intro t4 (And.intro t5 (And.intro t6 (And.intro t7 t8))))))))
                  clear t0 t1 t2 t3 t4 t5 t6 t7 t8 hlen
                  go_wp2_with ((with_reducible refine gate_store rfl ?_); refine stop_ ?_)
                  refine ⟨?_⟩
                  refine Kd.R_store k25 (w0 := w) (o' := j * 9) w.heap.size rfl rfl 25 (.tmp 73) (.tmp 72) rfl 25 (j : Int) 0 (m.take j ++ y :: m.drop j) l[i] (aggR l[i]) (celR l[i]).toList (celR y).toList (fun _ => True) (fun _ => False) rfl rfl rfl rfl ?at_ ?a1 HO4.out ?a0 ?ai rfl ?acc ?aj ?aM (fun _ h => h.elim) HB4.out ?_
                  case at_ => obtain ⟨i, hi, hz⟩ := Option.map_eq_some_iff.1 xinfoT; have h0 := congrArg (fun q => q.2.1) hz; rw [hi]; exact congrArg some h0
                  case a1 => intro q hq; simp only [celR, List.mem_cons, List.not_mem_nil, or_false] at hq; rcases hq with rfl | rfl | rfl | rfl | rfl | rfl | rfl | rfl | rfl <;> rfl
                  case a0 => omega
                  case ai => omega
                  case acc =>
                    obtain ⟨s0, s1, s2, s3, s4, s5, s6, s7, s8⟩ := HS1.out
                    intro j u hu
                    rw [Int.toNat_natCast]
                    rcases j with _ | _ | _ | _ | _ | _ | _ | _ | _ | j
                    · exact s0.trans hu
                    · exact s1.trans hu
                    · exact s2.trans hu
                    · exact s3.trans hu
                    · exact s4.trans hu
                    · exact s5.trans hu
                    · exact s6.trans hu
                    · exact s7.trans hu
                    · exact s8.trans hu
                    · cases hu
                  case aj => exact Nat.le_refl _
                  case aM => exact k25_mkM _ _ _ l[i]
                  intro w3 hM3 hB3 hg3
                  rw [Int.toNat_natCast, place_set hjm] at hM3
                  have HO5 := Aside0.mk hM3
                  have HB5 := Aside0.mk hB3
                  clear hM3 hB3 hg3 h0 h1 h2 h3 h4 h5 h6 h7 h8
                  go_wp2
                  go_roundg (l.length - (i + 1))
                  case measure => have := HLT.out; omega
                  case rel => exact ⟨i + 1, HLT.out, by omega, by go_num, HB5, _, by simp; omega, HO5, HNEW⟩
    · have hltz : ¬ (i : Int) < (l.length : Int) := by omega
      obtain rfl : i = l.length := by omega
      go_wp2
      go_ret
      refine ⟨_, rfl, ?_, HG.out⟩
      rw [← setL_is HM.out.1 (fun y => by rw [HM.out.2, List.take_length])]
      exact HO.out
end Go.Proofs.YtdjamphmndbmjaaGreatDoor.M

/- A region that draws its order, by what holds all the way: each operation that may come up next keeps it. -/
namespace Go.Proofs.YtdjamphmndbmjaaGreatDoor.M
open Go.RowKit Go.Proofs.YtdjamphmndbmjaaGreatDoorW.PrintWords Go.Proofs.YtdjamphmndbmjaaGreatDoorW.PrintLast Go.Proofs.YtdjamphmndbmjaaGreatDoorW.PrintMore
set_option linter.unusedVariables false
set_option linter.unusedSimpArgs false

theorem cell?_alloc_old' {W : World} {a : Addr} {v : Value} (h : W.cell? a = some v) (o : Obj) : (W.alloc o).cell? a = some v := Lib.cell?_alloc_some o h
/-- How many have not come up. -/
def left (l : Array Bool) : Nat := (l.toList.filter fun b => !b).length
theorem left_set {l : Array Bool} {i : Nat} (h : l.getD i true = false) : left (l.setIfInBounds i true) + 1 = left l := by
  obtain ⟨l⟩ := l
  unfold left
  simp only [List.setIfInBounds_toArray]
  induction l generalizing i with
  | nil => simp at h
  | cons b l ih =>
    cases i with
    | zero =>
      simp at h
      subst h
      simp
    | succ i =>
      have h' : (⟨l⟩ : Array Bool).getD i true = false := by simpa using h
      have := ih h'
      cases b <;> simp at this ⊢ <;> omega
theorem ready_nil_of_left {md : Region.Mode} {ops : Array Oper} {l : Array Bool} (h : left l = 0) : Region.ready md ops l = [] := by
  rcases hr : Region.ready md ops l with _ | ⟨i, rs⟩
  · rfl
  · have hi : i ∈ Region.ready md ops l := by rw [hr]; exact List.mem_cons_self
    have := left_set (mem_ready.1 hi).1
    omega
theorem all_up {ops : Array Oper} {l : Array Bool} (hup : (List.range ops.size).all (fun i => (ops[i]?.map fun o => o.after.all fun e => !Region.binds .any e || decide (e.on < i)).getD true) = true) (hs : l.size = ops.size) (hr : Region.ready .any ops l = []) : ∀ i, i < ops.size → l.getD i false = true := by
  intro i
  induction i using Nat.strongRecOn with
  | _ i ih =>
    intro hi
    have hil : i < l.size := by omega
    cases hl : l[i] with
    | true => simp [Array.getD_eq_getD_getElem?, hil, hl]
    | false =>
      exfalso
      have hu := List.all_eq_true.1 hup i (List.mem_range.2 hi)
      rw [Array.getElem?_eq_getElem hi] at hu
      simp only [Option.map_some, Option.getD_some] at hu
      have : i ∈ Region.ready .any ops l := mem_ready.2 ⟨by simp [Array.getD_eq_getD_getElem?, hil, hl], _, Array.getElem?_eq_getElem hi, fun e he hbe => by
        have h1 := Array.all_eq_true_iff_forall_mem.1 hu e he
        rw [hbe, Bool.not_true, Bool.false_or] at h1
        have h2 := of_decide_eq_true h1
        exact ih e.on h2 (by omega)⟩
      rw [hr] at this
      cases this
theorem region_inv {P : Program} {ops : Array Oper} {Q : Exit → Act → World → Prop} {id : Nat} {a : Act} {w : World} (hm : P.follows .mixedOrders = true) (Inv : Array Bool → Act → World → Prop)
    (h0 : Inv (Array.replicate ops.size false) a w.drew)
    (hstep : ∀ l a w i oi, Inv l a w → ops[i]? = some oi → i ∈ Region.ready .any ops l → ∀ K : Act → World → Prop, Shut (∀ a' w', Inv (l.setIfInBounds i true) a' w' → K a' w') → if Region.wanted oi (yielded ops a.tmps) = true then Oper.wp P oi a w K Q else K (a.put oi.dst undef) w)
    (hup : (List.range ops.size).all (fun i => (ops[i]?.map fun o => o.after.all fun e => !Region.binds .any e || decide (e.on < i)).getD true) = true)
    (hend : ∀ l a w, Inv l a w → (∀ i, i < ops.size → l.getD i false = true) → Q .normal a w) : (Code.region id ops true).wp P Q a w := by
  have hend : ∀ l a w, l.size = ops.size → Inv l a w → Region.ready .any ops l = [] → Q .normal a w := fun l a w hs hi hr => hend l a w hi (all_up hup hs hr)
  have key : ∀ (n : Nat) (l : Array Bool) (a : Act) (w : World), l.size = ops.size → left l ≤ n → Inv l a w → wpAnyLast P .any ops Q (fun _ => True) [] n l a w := by
    intro n
    induction n with
    | zero => exact fun l a w hs hl hi => ⟨ready_nil_of_left (by omega), hend l a w hs hi (ready_nil_of_left (by omega))⟩
    | succ n ih =>
      intro l a w hs hl hi
      refine ⟨fun h => hend l a w hs hi h, fun i hir => ?_⟩
      obtain ⟨hun, oi, hoi, _⟩ := mem_ready.1 hir
      refine wpOp_step hoi fun K hK => hstep l a w i oi hi hoi hir K (fun a' w' h' => hK a' w' ⟨fun _ _ => trivial, ih _ _ _ (by rw [Array.size_setIfInBounds]; exact hs) (by have := left_set hun; omega) h'⟩)
  refine wp_region_last (S := fun _ => True) (ds := []) hm (key _ _ _ _ (by simp) ?_ h0)
  unfold left
  exact Nat.le_trans (List.length_filter_le _ _) (by simp)
theorem skip_step {P : Program} {ops : Array Oper} {o : Oper} {a : Act} {Q : Exit → Act → World → Prop} {Kc : Act → World → Prop} {W w1 : World} (hw : Region.wanted o (yielded ops a.tmps) = true) (hrun : (execOp a.eval o).run P W = .ok .skip w1) (h : Kc (a.put o.dst undef) w1) : if Region.wanted o (yielded ops a.tmps) = true then Oper.wp P o a W Kc Q else Kc (a.put o.dst undef) W := by
  rw [if_pos hw]
  unfold Oper.wp
  rw [hrun]
  exact h
end Go.Proofs.YtdjamphmndbmjaaGreatDoor.M

/- Boxes: blocks whose cells are known; triple.Sorted by outcome. -/
namespace Go.Proofs.YtdjamphmndbmjaaGreatDoor.M
open Go.RowKit Go.Proofs.YtdjamphmndbmjaaGreatDoorW.PrintWords Go.Proofs.YtdjamphmndbmjaaGreatDoorW.PrintLast Go.Proofs.YtdjamphmndbmjaaGreatDoorW.PrintMore
set_option linter.unusedVariables false
set_option linter.unusedSimpArgs false

end Go.Proofs.YtdjamphmndbmjaaGreatDoor.M

/- Package layer: Check, Of, Between (printed by wip/gen_lay.py). -/
namespace Go.Proofs.YtdjamphmndbmjaaGreatDoor.M
open Go.RowKit Go.Proofs.YtdjamphmndbmjaaGreatDoorW.PrintWords Go.Proofs.YtdjamphmndbmjaaGreatDoorW.PrintLast Go.Proofs.YtdjamphmndbmjaaGreatDoorW.PrintMore
set_option linter.unusedVariables false
set_option linter.unusedSimpArgs false

theorem cells2b (w : World) (o : Obj) (A0 A1 : Option Addr) (c0 c1 n0 n1 : Nat) (T : Nat) : ((w.alloc o).alloc (.cells #[.slice A0 n0 c0, .slice A1 n1 c1] T)).cell? ⟨w.heap.size + 1, 0, none⟩ = some (.slice A0 n0 c0) ∧ ((w.alloc o).alloc (.cells #[.slice A0 n0 c0, .slice A1 n1 c1] T)).cell? ⟨w.heap.size + 1, 1, none⟩ = some (.slice A1 n1 c1) := by rw [← alloc_size1 w o]; exact cells2 _ _ _ _ _ _ _ _
theorem part_R (A0 : Option Addr) (c0 : Nat) (l0 : List S25) (A1 : Option Addr) (c1 : Nat) (l1 : List S25) (is : Bool) (w : World) (hr0 : Kd.C k25 w A0 l0.length l0) (hc0 : l0.length ≤ c0) (hr1 : Kd.C k25 w A1 l1.length l1) (hc1 : l1.length ≤ c1) (hl : l0.length < 1172812402961) (hs : sortedR l1 = none) :
    Calls Tryz.prog 107 #[.slice A0 l0.length c0, .slice A1 l1.length c1, .bool is] w fun e w' => ∃ v, e = .returned v ∧ Kd.R k25 25 w' w.heap.size (fun _ => True) v (partR l0 l1 is) ∧ Below w.heap.size w w' :=
  set_Part.calls A0 c0 l0 A1 c1 l1 is (partR l0 l1 is) w hr0 hc0 hr1 hc1 (by unfold set_Part.f partR; rw [if_pos ⟨hl, hs⟩])
set_option maxHeartbeats 4000000 in
set_option maxRecDepth 100000 in
theorem lcheck_calls (A0 : Option Addr) (c0 : Nat) (l0 : List S25) (A1 : Option Addr) (c1 : Nat) (l1 : List S25) (w : World) (hr0 : Kd.C k25 w A0 l0.length l0) (hc0 : l0.length ≤ c0) (hr1 : Kd.C k25 w A1 l1.length l1) (hc1 : l1.length ≤ c1) :
    Calls Tryz.prog 44 #[.agg #[.slice A0 l0.length c0, .slice A1 l1.length c1]] w fun e w' => e = .returned (errW (layErr l0 l1)) ∧ Below w.heap.size w w' := by
  have HR0 := Aside0.mk hr0; have HR1 := Aside0.mk hr1; have HB := Aside0.mk (Below.refl w.heap.size w)
  have Bl : Aside0 (Box (w.alloc (.cells #[.slice A0 l0.length c0, .slice A1 l1.length c1] 48)) w.heap.size #[.slice A0 l0.length c0, .slice A1 l1.length c1]) := ⟨Box.new _ _ _⟩
  have hright := fun W g0 h0 h1 hC0 hC1 => right2_calls g0 A0 A1 c0 c1 l0 l1 W h0 h1 hC0 hC1 hc0 hc1
  obtain ⟨r, hr⟩ : ∃ r, right2 l0 l1 = r := ⟨_, rfl⟩
  rw [hr] at hright
  cases r with
  | some n =>
    rw [show layErr l0 l1 = some n by unfold layErr; rw [hr], errW_some]
    have HRT := Aside0.mk hright
    clear hr0 hr1 hright hr
    go_enter Tryz.func44, Tryz.ntmps44
    go_wp2_with (go_at_call 106; refine (HRT.out _ _ (cells2b w _ A0 A1 c0 c1 _ _ _).1 (cells2b w _ A0 A1 c0 c1 _ _ _).2 (Kd.C_alloc (Kd.C_alloc HR0.out _) _) (Kd.C_alloc (Kd.C_alloc HR1.out _) _)).mono ?_; rintro e w' ⟨he, hb⟩; rw [errW_some] at he; subst he; have n0 := Aside0.mk (Kd.C_below (Kd.C_below HR0.out (by repeat (first | exact Below.refl _ _ | refine below_alloc ?_ _ | refine pw_below_drewN ?_ _ | refine below_drew1 ?_ | refine below_set ?_ (Nat.le_refl _)))) hb); have n1 := Aside0.mk (Kd.C_below (Kd.C_below HR1.out (by repeat (first | exact Below.refl _ _ | refine below_alloc ?_ _ | refine pw_below_drewN ?_ _ | refine below_drew1 ?_ | refine below_set ?_ (Nat.le_refl _)))) hb); have bl := Aside0.mk (Box.keep (by repeat (first | exact Below.refl _ _ | refine below_alloc ?_ _ | refine pw_below_drewN ?_ _ | refine below_drew1 ?_ | refine below_set ?_ (Nat.le_refl _))) hb Bl.out); have nb := Aside0.mk (below_step (below_step HB.out (by repeat (first | exact Below.refl _ _ | refine below_alloc ?_ _ | refine pw_below_drewN ?_ _ | refine below_drew1 ?_ | refine below_set ?_ (Nat.le_refl _)))) hb); clear HB HR0 HR1 Bl; have HB := nb; have HR0 := n0; have HR1 := n1; have Bl := bl; clear nb n0 n1 bl; clear hb)
    go_ret
    exact ⟨rfl, HB.out⟩
  | none =>
    obtain ⟨hs0, hs1⟩ := right2_none.1 hr
    have hp := fun W hC0 hC1 => part_calls A0 c0 l0 A1 c1 l1 true W hC0 hc0 hC1 hc1 (by have := sortedR_len hs0; omega) hs1
    rw [show layErr l0 l1 = if (partR l0 l1 true).length > 0 then some 7 else none by unfold layErr; rw [hr]]
    generalize partR l0 l1 true = u at hp ⊢
    have HRT := Aside0.mk hright
    by_cases hu : u.length > 0
    · have huz : (u.length : Int) > 0 := by omega
      have huz2 : 0 < u.length := hu
      rw [if_pos hu]
      have HP := Aside0.mk hp
      clear hr0 hr1 hright hr hs0 hs1 hp hu
      go_enter Tryz.func44, Tryz.ntmps44
      go_wp2_with (first | (go_at_call 106; refine (HRT.out _ _ (cells2b w _ A0 A1 c0 c1 _ _ _).1 (cells2b w _ A0 A1 c0 c1 _ _ _).2 (Kd.C_alloc (Kd.C_alloc HR0.out _) _) (Kd.C_alloc (Kd.C_alloc HR1.out _) _)).mono ?_; rintro e w' ⟨he, hb⟩; rw [errW_none] at he; subst he; have n0 := Aside0.mk (Kd.C_below (Kd.C_below HR0.out (by repeat (first | exact Below.refl _ _ | refine below_alloc ?_ _ | refine pw_below_drewN ?_ _ | refine below_drew1 ?_ | refine below_set ?_ (Nat.le_refl _)))) hb); have n1 := Aside0.mk (Kd.C_below (Kd.C_below HR1.out (by repeat (first | exact Below.refl _ _ | refine below_alloc ?_ _ | refine pw_below_drewN ?_ _ | refine below_drew1 ?_ | refine below_set ?_ (Nat.le_refl _)))) hb); have bl := Aside0.mk (Box.keep (by repeat (first | exact Below.refl _ _ | refine below_alloc ?_ _ | refine pw_below_drewN ?_ _ | refine below_drew1 ?_ | refine below_set ?_ (Nat.le_refl _))) hb Bl.out); have nb := Aside0.mk (below_step (below_step HB.out (by repeat (first | exact Below.refl _ _ | refine below_alloc ?_ _ | refine pw_below_drewN ?_ _ | refine below_drew1 ?_ | refine below_set ?_ (Nat.le_refl _)))) hb); clear HB HR0 HR1 Bl; have HB := nb; have HR0 := n0; have HR1 := n1; have Bl := bl; clear nb n0 n1 bl; have k0 := Bl.out 0 (.slice A0 l0.length c0) rfl; have k1 := Bl.out 1 (.slice A1 l1.length c1) rfl; clear hb) | (go_at_call 107; refine (HP.out _ HR0.out HR1.out).mono ?_; rintro e w' ⟨v, rfl, hv, hb⟩; obtain ⟨Au, cu, rfl, hCu, hcu⟩ := hv; have HB2 := Aside0.mk (below_step HB.out hb); clear hb hCu hcu))
      go_ret
      exact ⟨rfl, HB2.out⟩
    · obtain rfl : u = [] := List.eq_nil_of_length_eq_zero (by omega)
      rw [if_neg hu]
      have HP := Aside0.mk hp
      clear hr0 hr1 hright hr hs0 hs1 hp hu
      go_enter Tryz.func44, Tryz.ntmps44
      go_wp2_with (first | (go_at_call 106; refine (HRT.out _ _ (cells2b w _ A0 A1 c0 c1 _ _ _).1 (cells2b w _ A0 A1 c0 c1 _ _ _).2 (Kd.C_alloc (Kd.C_alloc HR0.out _) _) (Kd.C_alloc (Kd.C_alloc HR1.out _) _)).mono ?_; rintro e w' ⟨he, hb⟩; rw [errW_none] at he; subst he; have n0 := Aside0.mk (Kd.C_below (Kd.C_below HR0.out (by repeat (first | exact Below.refl _ _ | refine below_alloc ?_ _ | refine pw_below_drewN ?_ _ | refine below_drew1 ?_ | refine below_set ?_ (Nat.le_refl _)))) hb); have n1 := Aside0.mk (Kd.C_below (Kd.C_below HR1.out (by repeat (first | exact Below.refl _ _ | refine below_alloc ?_ _ | refine pw_below_drewN ?_ _ | refine below_drew1 ?_ | refine below_set ?_ (Nat.le_refl _)))) hb); have bl := Aside0.mk (Box.keep (by repeat (first | exact Below.refl _ _ | refine below_alloc ?_ _ | refine pw_below_drewN ?_ _ | refine below_drew1 ?_ | refine below_set ?_ (Nat.le_refl _))) hb Bl.out); have nb := Aside0.mk (below_step (below_step HB.out (by repeat (first | exact Below.refl _ _ | refine below_alloc ?_ _ | refine pw_below_drewN ?_ _ | refine below_drew1 ?_ | refine below_set ?_ (Nat.le_refl _)))) hb); clear HB HR0 HR1 Bl; have HB := nb; have HR0 := n0; have HR1 := n1; have Bl := bl; clear nb n0 n1 bl; have k0 := Bl.out 0 (.slice A0 l0.length c0) rfl; have k1 := Bl.out 1 (.slice A1 l1.length c1) rfl; clear hb) | (go_at_call 107; refine (HP.out _ HR0.out HR1.out).mono ?_; rintro e w' ⟨v, rfl, hv, hb⟩; obtain ⟨Au, cu, rfl, hCu, hcu⟩ := hv; have HB2 := Aside0.mk (below_step HB.out hb); clear hb hCu hcu))
      go_ret
      exact ⟨rfl, HB2.out⟩
/-- A layer's two rows, both of the call's own, as a value. -/
def LRow (w : World) (base : Nat) (v : Value) (a t : List S25) : Prop := ∃ v1 v2, v = .agg #[v1, v2] ∧ Kd.R k25 25 w base (fun _ => True) v1 a ∧ Kd.R k25 25 w base (fun _ => True) v2 t
set_option maxHeartbeats 4000000 in
set_option maxRecDepth 100000 in
theorem lof_calls (A0 : Option Addr) (c0 : Nat) (l0 : List S25) (A1 : Option Addr) (c1 : Nat) (l1 : List S25) (w : World) (hr0 : Kd.C k25 w A0 l0.length l0) (hc0 : l0.length ≤ c0) (hr1 : Kd.C k25 w A1 l1.length l1) (hc1 : l1.length ≤ c1) (hs0 : sortedR l0 = none) (hs1 : sortedR l1 = none) :
    Calls Tryz.prog 109 #[.slice A0 l0.length c0, .slice A1 l1.length c1] w fun e w' => ∃ v, e = .returned v ∧ LRow w' w.heap.size v (partR l1 l0 false) (partR l0 l1 false) ∧ Below w.heap.size w w' := by
  have HR0 := Aside0.mk hr0; have HR1 := Aside0.mk hr1; have HB := Aside0.mk (Below.refl w.heap.size w)
  have hp := fun W hC0 hC1 => part_R A1 c1 l1 A0 c0 l0 false W hC1 hc1 hC0 hc0 (by have := sortedR_len hs1; omega) hs0
  have hq := fun W hC0 hC1 => part_R A0 c0 l0 A1 c1 l1 false W hC0 hc0 hC1 hc1 (by have := sortedR_len hs0; omega) hs1
  generalize partR l1 l0 false = u at hp ⊢
  generalize partR l0 l1 false = v at hq ⊢
  have HP := Aside0.mk hp; have HQ := Aside0.mk hq
  clear hp hq hr0 hr1 hs0 hs1
  have HK : Aside0 ((w.alloc (.cells #[.slice none 0 0, .slice none 0 0] 48 (0, 0))).heap[w.heap.size]? = some (.cells #[.slice none 0 0, .slice none 0 0] 48 (0, 0))) := ⟨blk_new w _⟩
  go_enter Tryz.func109, Tryz.ntmps109
  go_wp2_with (first | (go_at_call 107; refine stop_ ?_))
  refine ⟨?_⟩
  refine Calls.mono (HP.out _ (Kd.C_alloc HR0.out _) (Kd.C_alloc HR1.out _)) ?_
  rintro e w1 ⟨v1, rfl, hv1, hb⟩
  have HK1 := Aside0.mk (blk_below HK.out hb); have HB1 := Aside0.mk (below_step (below_alloc HB.out (.cells #[.slice none 0 0, .slice none 0 0] 48 (0, 0))) hb); have HU := Aside0.mk (Kd.R_lower hv1 (show w.heap.size ≤ (w.alloc _).heap.size by rw [alloc_size1]; omega)); clear hv1 hb
  go_wp2_with (first | (go_at_call 107; refine stop_ ?_))
  refine ⟨?_⟩
  refine Calls.mono (HQ.out _ (Kd.C_below HR0.out HB1.out) (Kd.C_below HR1.out HB1.out)) ?_
  rintro e w2 ⟨v2, rfl, hv2, hb⟩
  have hK2 := blk_below HK1.out hb; have HB2 := Aside0.mk (below_step HB1.out hb); have HU2 := Aside0.mk (Kd.R_below HU.out hb); have HV2 := Aside0.mk (Kd.R_lower hv2 HB1.out.size)
  obtain ⟨Au, cu, eu⟩ := Kd.R_slice HU2.out
  subst eu
  obtain ⟨Av, cv, ev⟩ := Kd.R_slice HV2.out
  subst ev
  have k0 : w2.cell? ⟨w.heap.size, 0, none⟩ = some (.slice none 0 0) := (blk_cell hK2 0).trans rfl; have k1 : w2.cell? ⟨w.heap.size, 1, none⟩ = some (.slice none 0 0) := (blk_cell hK2 1).trans rfl
  have f0 := blk_frozen hK2 0; have f1 := blk_frozen hK2 1
  have HK2 := Aside0.mk hK2
  clear hK2 hv2 hb
  go_wp2
  refine bodyPost_ret (results_cell_row rfl _ _ w.heap.size 48 #[.slice Au u.length cu, .slice Av v.length cv] (0, 0) _ rfl (blk_put (cs := #[.slice Au u.length cu, .slice none 0 0]) (blk_put (cs := #[.slice none 0 0, .slice none 0 0]) HK2.out 0 _ rfl) 1 _ rfl) Tryz.underlying48 rfl (by kernel_rfl)) rfl ?_
  exact ⟨_, rfl, ⟨_, _, rfl, Kd.R_set (Kd.R_set HU2.out HK2.out (by decide) 0 _) (blk_put HK2.out 0 _ rfl) (by decide) 1 _, Kd.R_set (Kd.R_set HV2.out HK2.out (by decide) 0 _) (blk_put HK2.out 0 _ rfl) (by decide) 1 _⟩, below_set (below_set HB2.out (Nat.le_refl _)) (Nat.le_refl _)⟩
set_option maxHeartbeats 4000000 in
set_option maxRecDepth 100000 in
theorem betw_calls (A0 : Option Addr) (c0 : Nat) (l0 : List S25) (A1 : Option Addr) (c1 : Nat) (l1 : List S25) (w : World) (hr0 : Kd.C k25 w A0 l0.length l0) (hc0 : l0.length ≤ c0) (hr1 : Kd.C k25 w A1 l1.length l1) (hc1 : l1.length ≤ c1) :
    Calls Tryz.prog 49 #[.slice A0 l0.length c0, .slice A1 l1.length c1] w fun e w' => ∃ v, e = .returned (.tuple #[v, errW (betwR l0 l1).2]) ∧ LRow w' w.heap.size v (betwR l0 l1).1.1 (betwR l0 l1).1.2 ∧ Below w.heap.size w w' := by
  have HR0 := Aside0.mk hr0; have HR1 := Aside0.mk hr1; have HB := Aside0.mk (Below.refl w.heap.size w)
  have hright := fun W g0 h0 h1 hC0 hC1 => right2_calls g0 A0 A1 c0 c1 l0 l1 W h0 h1 hC0 hC1 hc0 hc1
  have HK : Aside0 ((w.alloc (.cells #[.slice none 0 0, .slice none 0 0] 48 (0, 0))).heap[w.heap.size]? = some (.cells #[.slice none 0 0, .slice none 0 0] 48 (0, 0))) := ⟨blk_new w _⟩
  obtain ⟨r, hr⟩ : ∃ r, right2 l0 l1 = r := ⟨_, rfl⟩
  rw [hr] at hright
  have HRT := Aside0.mk hright
  cases r with
  | some n =>
    rw [show betwR l0 l1 = (([], []), some n) by unfold betwR; rw [hr]]
    clear hr0 hr1 hright hr
    go_enter Tryz.func49, Tryz.ntmps49
    go_wp2_with (go_at_call 106; refine (HRT.out _ _ (cells2b w _ A0 A1 c0 c1 _ _ _).1 (cells2b w _ A0 A1 c0 c1 _ _ _).2 (Kd.C_alloc (Kd.C_alloc HR0.out _) _) (Kd.C_alloc (Kd.C_alloc HR1.out _) _)).mono ?_; rintro e w1 ⟨he, hb⟩; rw [errW_some] at he; subst he; have HB1 := Aside0.mk (below_step (below_alloc (below_alloc HB.out _) _) hb); have hK1 := blk_below (blk_alloc HK.out _) hb; have k0 : w1.cell? ⟨w.heap.size, 0, none⟩ = some (.slice none 0 0) := (blk_cell hK1 0).trans rfl; have k1 : w1.cell? ⟨w.heap.size, 1, none⟩ = some (.slice none 0 0) := (blk_cell hK1 1).trans rfl; have f0 := blk_frozen hK1 0; have f1 := blk_frozen hK1 1; have HK1 := Aside0.mk hK1; clear hK1; clear hb)
    refine bodyPost_ret (results_ct rfl _ _ w.heap.size 48 #[.slice none 0 0, .slice none 0 0] (0, 0) _ rfl (blk_put (cs := #[.slice none 0 0, .slice none 0 0]) (blk_put (cs := #[.slice none 0 0, .slice none 0 0]) HK1.out 0 _ rfl) 1 _ rfl) Tryz.underlying48 rfl (by kernel_rfl)) rfl ?_
    exact ⟨_, rfl, ⟨_, _, rfl, Kd.R_nil _ _ _ _ _, Kd.R_nil _ _ _ _ _⟩, below_set (below_set HB1.out (Nat.le_refl _)) (Nat.le_refl _)⟩
  | none =>
    obtain ⟨hs0, hs1⟩ := right2_none.1 hr
    rw [betw_ok hs0 hs1]
    have ho := fun W hC0 hC1 => lof_calls A0 c0 l0 A1 c1 l1 W hC0 hc0 hC1 hc1 hs0 hs1
    generalize partR l1 l0 false = u at ho ⊢
    generalize partR l0 l1 false = v at ho ⊢
    have HO := Aside0.mk ho
    clear hr0 hr1 hright hr hs0 hs1 ho
    go_enter Tryz.func49, Tryz.ntmps49
    go_wp2_with (first | (go_at_call 106; refine (HRT.out _ _ (cells2b w _ A0 A1 c0 c1 _ _ _).1 (cells2b w _ A0 A1 c0 c1 _ _ _).2 (Kd.C_alloc (Kd.C_alloc HR0.out _) _) (Kd.C_alloc (Kd.C_alloc HR1.out _) _)).mono ?_; rintro e w1 ⟨he, hb⟩; rw [errW_none] at he; subst he; have HB1 := Aside0.mk (below_step (below_alloc (below_alloc HB.out _) _) hb); have hK1 := blk_below (blk_alloc HK.out _) hb; have HK1 := Aside0.mk hK1; clear hK1; clear hb) | (go_at_call 109; refine stop_ ?_))
    refine ⟨?_⟩
    refine Calls.mono (HO.out _ (Kd.C_below HR0.out HB1.out) (Kd.C_below HR1.out HB1.out)) ?_
    rintro e w2 ⟨vv, rfl, ⟨v1, v2, rfl, hu, hv⟩, hb⟩
    have HB2 := Aside0.mk (below_step HB1.out hb); have hK2 := blk_below HK1.out hb; have HU2 := Aside0.mk (Kd.R_lower hu HB1.out.size); have HV2 := Aside0.mk (Kd.R_lower hv HB1.out.size)
    obtain ⟨Au, cu, eu⟩ := Kd.R_slice HU2.out
    subst eu
    obtain ⟨Av, cv, ev⟩ := Kd.R_slice HV2.out
    subst ev
    have k0 : w2.cell? ⟨w.heap.size, 0, none⟩ = some (.slice none 0 0) := (blk_cell hK2 0).trans rfl; have k1 : w2.cell? ⟨w.heap.size, 1, none⟩ = some (.slice none 0 0) := (blk_cell hK2 1).trans rfl; have f0 := blk_frozen hK2 0; have f1 := blk_frozen hK2 1; have HK2 := Aside0.mk hK2
    clear hK2 hu hv hb
    go_wp2
    refine bodyPost_ret (results_ct rfl _ _ w.heap.size 48 #[.slice Au u.length cu, .slice Av v.length cv] (0, 0) _ rfl (blk_put (cs := #[.slice Au u.length cu, .slice none 0 0]) (blk_put (cs := #[.slice none 0 0, .slice none 0 0]) HK2.out 0 _ rfl) 1 _ rfl) Tryz.underlying48 rfl (by kernel_rfl)) rfl ?_
    exact ⟨_, rfl, ⟨_, _, rfl, Kd.R_set (Kd.R_set HU2.out HK2.out (by decide) 0 _) (blk_put HK2.out 0 _ rfl) (by decide) 1 _, Kd.R_set (Kd.R_set HV2.out HK2.out (by decide) 0 _) (blk_put HK2.out 0 _ rfl) (by decide) 1 _⟩, below_set (below_set HB2.out (Nat.le_refl _)) (Nat.le_refl _)⟩
end Go.Proofs.YtdjamphmndbmjaaGreatDoor.M

/- strataref1's Union, Layer, Apply and Then (printed by wip/gen_r5.py). -/
namespace Go.Proofs.YtdjamphmndbmjaaGreatDoor.M
open Go.RowKit Go.Proofs.YtdjamphmndbmjaaGreatDoorW.PrintWords Go.Proofs.YtdjamphmndbmjaaGreatDoorW.PrintLast Go.Proofs.YtdjamphmndbmjaaGreatDoorW.PrintMore
set_option linter.unusedVariables false
set_option linter.unusedSimpArgs false

open Go.Sort
theorem R_row' {w : World} {base : Nat} {v : Value} {l : List S25} (h : Kd.R k25 25 w base (fun _ => True) v l) : ∃ A c, v = .slice A l.length c ∧ Kd.C k25 w A l.length l ∧ l.length ≤ c := Row.of_R h
set_option maxHeartbeats 4000000 in
set_option maxRecDepth 100000 in
theorem runion_calls (A0 : Option Addr) (c0 : Nat) (l0 : List S25) (A1 : Option Addr) (c1 : Nat) (l1 : List S25) (w : World) (hr0 : Kd.C k25 w A0 l0.length l0) (hr1 : Kd.C k25 w A1 l1.length l1) (hl : l0.length + l1.length ≤ 1000) : Calls Tryz.prog 53 #[.slice A0 l0.length c0, .slice A1 l1.length c1] w fun e w' => ∃ v, e = .returned v ∧ Kd.R k25 25 w' w.heap.size (fun _ => True) v (unionR l0 l1) ∧ Below w.heap.size w w' := by
  have HR0 := Aside0.mk hr0; have HR1 := Aside0.mk hr1; clear hr0 hr1
  go_enter Tryz.func53, Tryz.ntmps53
  go_wp2_with ((with_reducible refine gate_builtin (b := .append) (xs := #[.tmp 6, .tmp 7]) rfl ?_); at_builtin; refine stop_ ?_)
  refine ⟨?_⟩
  refine Kd.R_append_rows k25 (w0 := w) w.heap.size rfl (.tmp 6) (.tmp 7) 26 25 _ 120 rfl Tryz.underlying26 xinfoT rfl (by decide) (by omega) _ ([] : List S25) l0 _ _ _ (fun _ => True) (fun _ => False) rfl rfl (Kd.R_nil _ _ _ _ _) HR0.out (fun _ _ h => h) (fun _ h => h.elim) (fun _ _ => trivial) (Below.refl w.heap.size w) (Below.refl w.heap.size w).size ?aL ?_
  case aL => first | omega | (simp; omega)
  intro v1 w1 ho hb hgr hat
  rw [List.nil_append] at ho
  have HO := Aside0.mk ho
  have HB := Aside0.mk hb
  clear ho hb hgr hat
  obtain ⟨Ao, co, eo⟩ := Kd.R_slice HO.out
  subst eo
  go_wp2_with ((with_reducible refine gate_builtin (b := .append) (xs := #[.tmp 9, .tmp 10]) rfl ?_); at_builtin; refine stop_ ?_)
  refine ⟨?_⟩
  refine Kd.R_append_rows k25 (w0 := w) w.heap.size rfl (.tmp 9) (.tmp 10) 26 25 _ 120 rfl Tryz.underlying26 xinfoT rfl (by decide) (by omega) _ l0 l1 _ _ _ (fun _ => True) (fun _ => False) rfl rfl HO.out (Kd.C_below HR1.out HB.out) (fun _ _ h => h) (fun _ h => h.elim) (fun _ _ => trivial) HB.out HB.out.size ?aL ?_
  case aL => first | omega | (simp; omega)
  intro v1 w1 ho hb hgr hat
  have HO2 := Aside0.mk ho
  have HB2 := Aside0.mk hb
  clear ho hb hgr hat HO HB
  obtain ⟨A2, c2, e2⟩ := Kd.R_slice HO2.out
  rw [e2] at HO2
  have hs := rsorted_calls A2 c2 (l0 ++ l1) w1 (Kd.R_reads' HO2.out).2.2 (by rw [List.length_append]; exact hl)
  rw [setL_union] at hs
  rw [List.length_append] at hs e2
  subst e2
  have HS := Aside0.mk hs; clear hs
  go_wp2_with (go_at_call 18; refine stop_ ?_)
  refine ⟨?_⟩
  refine HS.out.mono ?_
  rintro e w' ⟨v, rfl, hv, hb⟩
  have HV := Aside0.mk hv; have HB3 := Aside0.mk (below_step HB2.out hb); clear hv hb
  obtain ⟨A3, c3, e3⟩ := Kd.R_slice HV.out
  subst e3
  go_wp2
  go_ret
  exact ⟨_, rfl, Kd.R_lower HV.out HB2.out.size, HB3.out⟩
set_option maxHeartbeats 4000000 in
set_option maxRecDepth 100000 in
theorem rlayer_calls (A0 : Option Addr) (c0 : Nat) (l0 : List S25) (A1 : Option Addr) (c1 : Nat) (l1 : List S25) (w : World) (hr0 : Kd.C k25 w A0 l0.length l0) (hr1 : Kd.C k25 w A1 l1.length l1) : Calls Tryz.prog 28 #[.agg #[.slice A0 l0.length c0, .slice A1 l1.length c1]] w fun e w' => e = .returned (.int .i64 (codeE (layErr l0 l1))) ∧ Below w.heap.size w w' := by
  have HR0 := Aside0.mk hr0; have HR1 := Aside0.mk hr1; have HB := Aside0.mk (Below.refl w.heap.size w)
  have Bl : Aside0 (Box (w.alloc (.cells #[.slice A0 l0.length c0, .slice A1 l1.length c1] 48)) w.heap.size #[.slice A0 l0.length c0, .slice A1 l1.length c1]) := ⟨Box.new _ _ _⟩
  have h2 := fun W hC0 hC1 => rtwo_calls A0 c0 l0 A1 c1 l1 W hC0 hC1
  clear hr0 hr1
  cases hc : right2 l0 l1 with
  | some n =>
    have n0 : (n != 0) = true := by simpa using right2_ne hc
    rw [hc] at h2
    rw [show layErr l0 l1 = some n by unfold layErr; rw [hc]]
    simp only [codeE_some] at h2 ⊢
    have H2 := Aside0.mk h2; clear h2 hc
    go_enter Tryz.func28, Tryz.ntmps28
    go_wp2_with (first | (go_at_call 47; refine stop_ ?_))
    refine ⟨?_⟩
    refine Calls.mono (H2.out _ (Kd.C_below HR0.out (by repeat (first | exact Below.refl _ _ | refine below_alloc ?_ _ | refine pw_below_drewN ?_ _ | refine below_drew1 ?_ | refine below_set ?_ (Nat.le_refl _)))) (Kd.C_below HR1.out (by repeat (first | exact Below.refl _ _ | refine below_alloc ?_ _ | refine pw_below_drewN ?_ _ | refine below_drew1 ?_ | refine below_set ?_ (Nat.le_refl _))))) ?_
    rintro e w' ⟨rfl, hb⟩
    replace hb := hb.bel
    have n0 := Aside0.mk (Kd.C_below (Kd.C_below HR0.out (by repeat (first | exact Below.refl _ _ | refine below_alloc ?_ _ | refine pw_below_drewN ?_ _ | refine below_drew1 ?_ | refine below_set ?_ (Nat.le_refl _)))) hb); have n1 := Aside0.mk (Kd.C_below (Kd.C_below HR1.out (by repeat (first | exact Below.refl _ _ | refine below_alloc ?_ _ | refine pw_below_drewN ?_ _ | refine below_drew1 ?_ | refine below_set ?_ (Nat.le_refl _)))) hb); have bl := Aside0.mk (Box.keep (by repeat (first | exact Below.refl _ _ | refine below_alloc ?_ _ | refine pw_below_drewN ?_ _ | refine below_drew1 ?_ | refine below_set ?_ (Nat.le_refl _))) hb Bl.out); have nb := Aside0.mk (below_step (below_step HB.out (by repeat (first | exact Below.refl _ _ | refine below_alloc ?_ _ | refine pw_below_drewN ?_ _ | refine below_drew1 ?_ | refine below_set ?_ (Nat.le_refl _)))) hb); clear HB HR0 HR1 Bl; have HB := nb; have HR0 := n0; have HR1 := n1; have Bl := bl; clear nb n0 n1 bl; clear hb
    go_wp2
    go_ret
    exact ⟨rfl, HB.out⟩
  | none =>
    rw [hc] at h2
    simp only [codeE_none] at h2
    obtain ⟨hs0, hs1⟩ := right2_none.1 hc
    have hp := fun W hC0 hC1 => rpart_calls A0 c0 l0 A1 c1 l1 true W hC0 hC1 (by have := sortedR_len hs0; omega)
    rw [show layErr l0 l1 = if (partR l0 l1 true).length > 0 then some 7 else none by unfold layErr; rw [hc]]
    generalize partR l0 l1 true = u at hp ⊢
    obtain ⟨res, hres⟩ : ∃ r : Option Int, (if u.length > 0 then some 7 else none) = r := ⟨_, rfl⟩
    rw [hres]
    have HRES := Aside0.mk hres; clear hres
    have H2 := Aside0.mk h2; have HP := Aside0.mk hp; clear h2 hc hp hs0 hs1
    go_enter Tryz.func28, Tryz.ntmps28
    go_wp2_with (first | (go_at_call 47; refine stop_ ?_))
    refine ⟨?_⟩
    refine Calls.mono (H2.out _ (Kd.C_below HR0.out (by repeat (first | exact Below.refl _ _ | refine below_alloc ?_ _ | refine pw_below_drewN ?_ _ | refine below_drew1 ?_ | refine below_set ?_ (Nat.le_refl _)))) (Kd.C_below HR1.out (by repeat (first | exact Below.refl _ _ | refine below_alloc ?_ _ | refine pw_below_drewN ?_ _ | refine below_drew1 ?_ | refine below_set ?_ (Nat.le_refl _))))) ?_
    rintro e w' ⟨rfl, hb⟩
    replace hb := hb.bel
    have n0 := Aside0.mk (Kd.C_below (Kd.C_below HR0.out (by repeat (first | exact Below.refl _ _ | refine below_alloc ?_ _ | refine pw_below_drewN ?_ _ | refine below_drew1 ?_ | refine below_set ?_ (Nat.le_refl _)))) hb); have n1 := Aside0.mk (Kd.C_below (Kd.C_below HR1.out (by repeat (first | exact Below.refl _ _ | refine below_alloc ?_ _ | refine pw_below_drewN ?_ _ | refine below_drew1 ?_ | refine below_set ?_ (Nat.le_refl _)))) hb); have bl := Aside0.mk (Box.keep (by repeat (first | exact Below.refl _ _ | refine below_alloc ?_ _ | refine pw_below_drewN ?_ _ | refine below_drew1 ?_ | refine below_set ?_ (Nat.le_refl _))) hb Bl.out); have nb := Aside0.mk (below_step (below_step HB.out (by repeat (first | exact Below.refl _ _ | refine below_alloc ?_ _ | refine pw_below_drewN ?_ _ | refine below_drew1 ?_ | refine below_set ?_ (Nat.le_refl _)))) hb); clear HB HR0 HR1 Bl; have HB := nb; have HR0 := n0; have HR1 := n1; have Bl := bl; clear nb n0 n1 bl; have k0 := Bl.out 0 (.slice A0 l0.length c0) rfl; have k1 := Bl.out 1 (.slice A1 l1.length c1) rfl; clear hb
    go_wp2_with (first | (go_at_call 48; refine stop_ ?_))
    clear k0 k1
    refine ⟨?_⟩
    refine Calls.mono (HP.out _ (Kd.C_below HR0.out (by repeat (first | exact Below.refl _ _ | refine below_alloc ?_ _ | refine pw_below_drewN ?_ _ | refine below_drew1 ?_ | refine below_set ?_ (Nat.le_refl _)))) (Kd.C_below HR1.out (by repeat (first | exact Below.refl _ _ | refine below_alloc ?_ _ | refine pw_below_drewN ?_ _ | refine below_drew1 ?_ | refine below_set ?_ (Nat.le_refl _))))) ?_
    rintro e w' ⟨v, rfl, hv, hb⟩
    obtain ⟨Au, cu, rfl, _, _⟩ := R_row' hv
    clear hv
    have n0 := Aside0.mk (Kd.C_below (Kd.C_below HR0.out (by repeat (first | exact Below.refl _ _ | refine below_alloc ?_ _ | refine pw_below_drewN ?_ _ | refine below_drew1 ?_ | refine below_set ?_ (Nat.le_refl _)))) hb); have n1 := Aside0.mk (Kd.C_below (Kd.C_below HR1.out (by repeat (first | exact Below.refl _ _ | refine below_alloc ?_ _ | refine pw_below_drewN ?_ _ | refine below_drew1 ?_ | refine below_set ?_ (Nat.le_refl _)))) hb); have bl := Aside0.mk (Box.keep (by repeat (first | exact Below.refl _ _ | refine below_alloc ?_ _ | refine pw_below_drewN ?_ _ | refine below_drew1 ?_ | refine below_set ?_ (Nat.le_refl _))) hb Bl.out); have nb := Aside0.mk (below_step (below_step HB.out (by repeat (first | exact Below.refl _ _ | refine below_alloc ?_ _ | refine pw_below_drewN ?_ _ | refine below_drew1 ?_ | refine below_set ?_ (Nat.le_refl _)))) hb); clear HB HR0 HR1 Bl; have HB := nb; have HR0 := n0; have HR1 := n1; have Bl := bl; clear nb n0 n1 bl; clear hb
    by_cases hu : u.length > 0
    · have huz : (u.length : Int) > 0 := by omega
      have huz2 : 0 < u.length := hu
      have e := HRES.out; rw [if_pos hu] at e; have HE := Aside0.mk e; clear e hu
      go_wp2
      go_ret
      rw [← HE.out]
      exact ⟨rfl, HB.out⟩
    · obtain rfl : u = [] := List.eq_nil_of_length_eq_zero (by omega)
      have e := HRES.out; rw [if_neg hu] at e; have HE := Aside0.mk e; clear e hu
      go_wp2
      go_ret
      rw [← HE.out]
      exact ⟨rfl, HB.out⟩
set_option maxHeartbeats 4000000 in
set_option maxRecDepth 100000 in
theorem rapply_calls (A0 : Option Addr) (c0 : Nat) (l0 : List S25) (A1 : Option Addr) (c1 : Nat) (l1 : List S25) (A2 : Option Addr) (c2 : Nat) (l2 : List S25) (w : World) (hr0 : Kd.C k25 w A0 l0.length l0) (hr1 : Kd.C k25 w A1 l1.length l1) (hr2 : Kd.C k25 w A2 l2.length l2) (hs0 : sortedR l0 = none) (hs1 : layErr l1 l2 = none) :
    Calls Tryz.prog 45 #[.slice A0 l0.length c0, .agg #[.slice A1 l1.length c1, .slice A2 l2.length c2]] w fun e w' => ∃ v, e = .returned (.tuple #[v, .int .i64 (codeE (applyR l0 l1 l2).2)]) ∧ Kd.R k25 25 w' w.heap.size (fun _ => True) v (applyR l0 l1 l2).1 ∧ Below w.heap.size w w' := by
  have HR0 := Aside0.mk hr0; have HR1 := Aside0.mk hr1; have HR2 := Aside0.mk hr2; have HB := Aside0.mk (Below.refl w.heap.size w)
  have Bl : Aside0 (Box (w.alloc (.cells #[.slice A1 l1.length c1, .slice A2 l2.length c2] 48)) w.heap.size #[.slice A1 l1.length c1, .slice A2 l2.length c2]) := ⟨Box.new _ _ _⟩
  obtain ⟨hq1, hq2, _⟩ := lay_none hs1
  have n0 := sortedR_len hs0; have n1 := sortedR_len hq1; have n2 := sortedR_len hq2
  have hp := fun W hC1 hC0 => rpart_calls A1 c1 l1 A0 c0 l0 true W hC1 hC0 (by omega)
  have hq := fun W hC2 hC0 => rpart_calls A2 c2 l2 A0 c0 l0 false W hC2 hC0 (by omega)
  have hs := fun W hC0 hC2 => rpart_calls A0 c0 l0 A2 c2 l2 false W hC0 hC2 (by omega)
  have n3 : (partR l0 l2 false).length ≤ l0.length := List.length_filter_le _ _
  have hu := fun W A c hC hC1 => runion_calls A c (partR l0 l2 false) A1 c1 l1 W hC hC1 (by omega)
  rw [show applyR l0 l1 l2 = if (partR l1 l0 true).length > 0 then ([], some 7) else if (partR l2 l0 false).length > 0 then ([], some 5) else if (unionR (partR l0 l2 false) l1).length > 200 then ([], some 4) else (unionR (partR l0 l2 false) l1, none) by unfold applyR; rw [hs0, hs1]]
  clear hs0 hs1 hq1 hq2 n0 n1 n2 n3 hr0 hr1 hr2
  generalize partR l1 l0 true = p at hp ⊢
  generalize partR l2 l0 false = q at hq ⊢
  generalize partR l0 l2 false = s at hs hu ⊢
  generalize unionR s l1 = u at hu ⊢
  have HP := Aside0.mk hp; have HQ := Aside0.mk hq; have HS := Aside0.mk hs; have HU := Aside0.mk hu
  clear hp hq hs hu
  obtain ⟨res, hres⟩ : ∃ r : List S25 × Option Int, (if p.length > 0 then ([], some 7) else if q.length > 0 then ([], some 5) else if u.length > 200 then ([], some 4) else (u, none)) = r := ⟨_, rfl⟩
  rw [hres]
  have HRES := Aside0.mk hres; clear hres
  go_enter Tryz.func45, Tryz.ntmps45
  go_wp2_with (first | (go_at_call 48; refine stop_ ?_) | (go_at_call 53; refine stop_ ?_))
  refine ⟨?_⟩
  refine Calls.mono (HP.out _ (Kd.C_below HR1.out (by repeat (first | exact Below.refl _ _ | refine below_alloc ?_ _ | refine pw_below_drewN ?_ _ | refine below_drew1 ?_ | refine below_set ?_ (Nat.le_refl _)))) (Kd.C_below HR0.out (by repeat (first | exact Below.refl _ _ | refine below_alloc ?_ _ | refine pw_below_drewN ?_ _ | refine below_drew1 ?_ | refine below_set ?_ (Nat.le_refl _))))) ?_
  rintro e w' ⟨v, rfl, hv, hb⟩
  have n0 := Aside0.mk (Kd.C_below (Kd.C_below HR0.out (by repeat (first | exact Below.refl _ _ | refine below_alloc ?_ _ | refine pw_below_drewN ?_ _ | refine below_drew1 ?_ | refine below_set ?_ (Nat.le_refl _)))) hb); have n1 := Aside0.mk (Kd.C_below (Kd.C_below HR1.out (by repeat (first | exact Below.refl _ _ | refine below_alloc ?_ _ | refine pw_below_drewN ?_ _ | refine below_drew1 ?_ | refine below_set ?_ (Nat.le_refl _)))) hb); have n2 := Aside0.mk (Kd.C_below (Kd.C_below HR2.out (by repeat (first | exact Below.refl _ _ | refine below_alloc ?_ _ | refine pw_below_drewN ?_ _ | refine below_drew1 ?_ | refine below_set ?_ (Nat.le_refl _)))) hb); have bl := Aside0.mk (Box.keep (by repeat (first | exact Below.refl _ _ | refine below_alloc ?_ _ | refine pw_below_drewN ?_ _ | refine below_drew1 ?_ | refine below_set ?_ (Nat.le_refl _))) hb Bl.out); have nb := Aside0.mk (below_step (below_step HB.out (by repeat (first | exact Below.refl _ _ | refine below_alloc ?_ _ | refine pw_below_drewN ?_ _ | refine below_drew1 ?_ | refine below_set ?_ (Nat.le_refl _)))) hb); clear HB HR0 HR1 HR2 Bl; have HB := nb; have HR0 := n0; have HR1 := n1; have HR2 := n2; have Bl := bl; clear nb n0 n1 n2 bl; have k0 := Bl.out 0 (.slice A1 l1.length c1) rfl; have k1 := Bl.out 1 (.slice A2 l2.length c2) rfl; clear hb
  obtain ⟨Ap, cp, ep⟩ := Kd.R_slice hv
  subst ep
  clear hv
  by_cases hp : p.length > 0
  · have e := HRES.out; rw [if_pos hp] at e; have HE := Aside0.mk e; clear e
    have hpz : (p.length : Int) > 0 := by omega
    have hpy : 0 < p.length := hp
    clear hp
    go_wp2_with (first | (go_at_call 48; refine stop_ ?_) | (go_at_call 53; refine stop_ ?_))
    go_ret2
    rw [← HE.out]
    exact ⟨_, rfl, Kd.R_nil _ _ _ _ _, HB.out⟩
  have e := HRES.out; rw [if_neg hp] at e; have HE1 := Aside0.mk e; clear e HRES
  obtain rfl : p = [] := List.eq_nil_of_length_eq_zero (by omega)
  clear hp
  go_wp2_with (first | (go_at_call 48; refine stop_ ?_) | (go_at_call 53; refine stop_ ?_))
  clear k0 k1
  refine ⟨?_⟩
  refine Calls.mono (HQ.out _ (Kd.C_below HR2.out (by repeat (first | exact Below.refl _ _ | refine below_alloc ?_ _ | refine pw_below_drewN ?_ _ | refine below_drew1 ?_ | refine below_set ?_ (Nat.le_refl _)))) (Kd.C_below HR0.out (by repeat (first | exact Below.refl _ _ | refine below_alloc ?_ _ | refine pw_below_drewN ?_ _ | refine below_drew1 ?_ | refine below_set ?_ (Nat.le_refl _))))) ?_
  rintro e w' ⟨v, rfl, hv, hb⟩
  have n0 := Aside0.mk (Kd.C_below (Kd.C_below HR0.out (by repeat (first | exact Below.refl _ _ | refine below_alloc ?_ _ | refine pw_below_drewN ?_ _ | refine below_drew1 ?_ | refine below_set ?_ (Nat.le_refl _)))) hb); have n1 := Aside0.mk (Kd.C_below (Kd.C_below HR1.out (by repeat (first | exact Below.refl _ _ | refine below_alloc ?_ _ | refine pw_below_drewN ?_ _ | refine below_drew1 ?_ | refine below_set ?_ (Nat.le_refl _)))) hb); have n2 := Aside0.mk (Kd.C_below (Kd.C_below HR2.out (by repeat (first | exact Below.refl _ _ | refine below_alloc ?_ _ | refine pw_below_drewN ?_ _ | refine below_drew1 ?_ | refine below_set ?_ (Nat.le_refl _)))) hb); have bl := Aside0.mk (Box.keep (by repeat (first | exact Below.refl _ _ | refine below_alloc ?_ _ | refine pw_below_drewN ?_ _ | refine below_drew1 ?_ | refine below_set ?_ (Nat.le_refl _))) hb Bl.out); have nb := Aside0.mk (below_step (below_step HB.out (by repeat (first | exact Below.refl _ _ | refine below_alloc ?_ _ | refine pw_below_drewN ?_ _ | refine below_drew1 ?_ | refine below_set ?_ (Nat.le_refl _)))) hb); clear HB HR0 HR1 HR2 Bl; have HB := nb; have HR0 := n0; have HR1 := n1; have HR2 := n2; have Bl := bl; clear nb n0 n1 n2 bl; have k0 := Bl.out 0 (.slice A1 l1.length c1) rfl; have k1 := Bl.out 1 (.slice A2 l2.length c2) rfl; clear hb
  obtain ⟨Aq, cq, eq_⟩ := Kd.R_slice hv
  subst eq_
  clear hv
  by_cases hq : q.length > 0
  · have e := HE1.out; rw [if_pos hq] at e; have HE := Aside0.mk e; clear e
    have hqz : (q.length : Int) > 0 := by omega
    have hqy : 0 < q.length := hq
    clear hq
    go_wp2_with (first | (go_at_call 48; refine stop_ ?_) | (go_at_call 53; refine stop_ ?_))
    go_ret2
    rw [← HE.out]
    exact ⟨_, rfl, Kd.R_nil _ _ _ _ _, HB.out⟩
  have e := HE1.out; rw [if_neg hq] at e; have HE2 := Aside0.mk e; clear e HE1
  obtain rfl : q = [] := List.eq_nil_of_length_eq_zero (by omega)
  clear hq
  go_wp2_with (first | (go_at_call 48; refine stop_ ?_) | (go_at_call 53; refine stop_ ?_))
  go_region_held3 (fun W => W.cell? ⟨w.heap.size, 0, none⟩ = some (.slice A1 l1.length c1) ∧ W.cell? ⟨w.heap.size, 1, none⟩ = some (.slice A2 l2.length c2)) (first | exact ⟨m0, m1⟩ | exact ⟨k0, k1⟩ | go_keep) (first | (go_at_call 48; refine (HS.out _ (Kd.C_below HR0.out (by repeat (first | exact Below.refl _ _ | refine below_alloc ?_ _ | refine pw_below_drewN ?_ _ | refine below_drew1 ?_ | refine below_set ?_ (Nat.le_refl _)))) (Kd.C_below HR2.out (by repeat (first | exact Below.refl _ _ | refine below_alloc ?_ _ | refine pw_below_drewN ?_ _ | refine below_drew1 ?_ | refine below_set ?_ (Nat.le_refl _))))).mono ?_; rintro e w5 ⟨v, rfl, hv, hb⟩; obtain ⟨As, cs, rfl, hCs, _⟩ := R_row' hv; have HRS := Aside0.mk hCs; clear hv hCs; have n0 := Aside0.mk (Kd.C_below (Kd.C_below HR0.out (by repeat (first | exact Below.refl _ _ | refine below_alloc ?_ _ | refine pw_below_drewN ?_ _ | refine below_drew1 ?_ | refine below_set ?_ (Nat.le_refl _)))) hb); have n1 := Aside0.mk (Kd.C_below (Kd.C_below HR1.out (by repeat (first | exact Below.refl _ _ | refine below_alloc ?_ _ | refine pw_below_drewN ?_ _ | refine below_drew1 ?_ | refine below_set ?_ (Nat.le_refl _)))) hb); have n2 := Aside0.mk (Kd.C_below (Kd.C_below HR2.out (by repeat (first | exact Below.refl _ _ | refine below_alloc ?_ _ | refine pw_below_drewN ?_ _ | refine below_drew1 ?_ | refine below_set ?_ (Nat.le_refl _)))) hb); have bl := Aside0.mk (Box.keep (by repeat (first | exact Below.refl _ _ | refine below_alloc ?_ _ | refine pw_below_drewN ?_ _ | refine below_drew1 ?_ | refine below_set ?_ (Nat.le_refl _))) hb Bl.out); have nb := Aside0.mk (below_step (below_step HB.out (by repeat (first | exact Below.refl _ _ | refine below_alloc ?_ _ | refine pw_below_drewN ?_ _ | refine below_drew1 ?_ | refine below_set ?_ (Nat.le_refl _)))) hb); clear HB HR0 HR1 HR2 Bl; have HB := nb; have HR0 := n0; have HR1 := n1; have HR2 := n2; have Bl := bl; clear nb n0 n1 n2 bl; have m0 := Bl.out 0 (.slice A1 l1.length c1) rfl; have m1 := Bl.out 1 (.slice A2 l2.length c2) rfl; clear hb) | (go_at_call 53; refine (HU.out _ As cs (Kd.C_below HRS.out (by repeat (first | exact Below.refl _ _ | refine below_alloc ?_ _ | refine pw_below_drewN ?_ _ | refine below_drew1 ?_ | refine below_set ?_ (Nat.le_refl _)))) (Kd.C_below HR1.out (by repeat (first | exact Below.refl _ _ | refine below_alloc ?_ _ | refine pw_below_drewN ?_ _ | refine below_drew1 ?_ | refine below_set ?_ (Nat.le_refl _))))).mono ?_; rintro e w6 ⟨v, rfl, hv, hb⟩; obtain ⟨Au, cu, eu⟩ := Kd.R_slice hv; subst eu; have HV := Aside0.mk (Kd.R_lower hv (Nat.le_trans HB.out.size (show _ ≤ _ from Nat.le_of_eq (by first | rfl | simp)))); clear hv; have n0 := Aside0.mk (Kd.C_below (Kd.C_below HR0.out (by repeat (first | exact Below.refl _ _ | refine below_alloc ?_ _ | refine pw_below_drewN ?_ _ | refine below_drew1 ?_ | refine below_set ?_ (Nat.le_refl _)))) hb); have n1 := Aside0.mk (Kd.C_below (Kd.C_below HR1.out (by repeat (first | exact Below.refl _ _ | refine below_alloc ?_ _ | refine pw_below_drewN ?_ _ | refine below_drew1 ?_ | refine below_set ?_ (Nat.le_refl _)))) hb); have n2 := Aside0.mk (Kd.C_below (Kd.C_below HR2.out (by repeat (first | exact Below.refl _ _ | refine below_alloc ?_ _ | refine pw_below_drewN ?_ _ | refine below_drew1 ?_ | refine below_set ?_ (Nat.le_refl _)))) hb); have bl := Aside0.mk (Box.keep (by repeat (first | exact Below.refl _ _ | refine below_alloc ?_ _ | refine pw_below_drewN ?_ _ | refine below_drew1 ?_ | refine below_set ?_ (Nat.le_refl _))) hb Bl.out); have nb := Aside0.mk (below_step (below_step HB.out (by repeat (first | exact Below.refl _ _ | refine below_alloc ?_ _ | refine pw_below_drewN ?_ _ | refine below_drew1 ?_ | refine below_set ?_ (Nat.le_refl _)))) hb); clear HB HR0 HR1 HR2 Bl; have HB := nb; have HR0 := n0; have HR1 := n1; have HR2 := n2; have Bl := bl; clear nb n0 n1 n2 bl; have m0 := Bl.out 0 (.slice A1 l1.length c1) rfl; have m1 := Bl.out 1 (.slice A2 l2.length c2) rfl; clear hb))
  by_cases hu : u.length > 200
  · have e := HE2.out; rw [if_pos hu] at e; have HE := Aside0.mk e; clear e
    have huz : (u.length : Int) > 200 := by omega
    clear hu
    go_wp2
    go_ret2
    rw [← HE.out]
    exact ⟨_, rfl, Kd.R_nil _ _ _ _ _, HB.out⟩
  · have e := HE2.out; rw [if_neg hu] at e; have HE := Aside0.mk e; clear e
    have huz : ¬ (u.length : Int) > 200 := by omega
    clear hu
    go_wp2
    go_ret2
    rw [← HE.out]
    exact ⟨_, rfl, HV.out, HB.out⟩
end Go.Proofs.YtdjamphmndbmjaaGreatDoor.M

/- strataref1's Then (printed by wip/gen_r6.py). -/
namespace Go.Proofs.YtdjamphmndbmjaaGreatDoor.M
open Go.RowKit Go.Proofs.YtdjamphmndbmjaaGreatDoorW.PrintWords Go.Proofs.YtdjamphmndbmjaaGreatDoorW.PrintLast Go.Proofs.YtdjamphmndbmjaaGreatDoorW.PrintMore
set_option linter.unusedVariables false
set_option linter.unusedSimpArgs false

open Go.Sort
theorem cell?_alloc_old2 {W : World} {a : Addr} {v : Value} (h : W.cell? a = some v) (o : Obj) : (W.alloc o).cell? a = some v := Lib.cell?_alloc_some o h
set_option maxHeartbeats 16000000 in
set_option maxRecDepth 100000 in
theorem rthen_calls (A1 : Option Addr) (c1 : Nat) (l1 : List S25) (A2 : Option Addr) (c2 : Nat) (l2 : List S25) (A3 : Option Addr) (c3 : Nat) (l3 : List S25) (A4 : Option Addr) (c4 : Nat) (l4 : List S25) (w : World) (hr1 : Kd.C k25 w A1 l1.length l1) (hr2 : Kd.C k25 w A2 l2.length l2) (hr3 : Kd.C k25 w A3 l3.length l3) (hr4 : Kd.C k25 w A4 l4.length l4) (q1 : layErr l1 l2 = none) (q2 : layErr l3 l4 = none) :
    Calls Tryz.prog 51 #[.agg #[.slice A1 l1.length c1, .slice A2 l2.length c2], .agg #[.slice A3 l3.length c3, .slice A4 l4.length c4]] w fun e w' => ∃ v, e = .returned (.tuple #[v, .int .i64 (codeE (thenR l1 l2 l3 l4).2)]) ∧ LRow w' w.heap.size v (thenR l1 l2 l3 l4).1.1 (thenR l1 l2 l3 l4).1.2 ∧ Below w.heap.size w w' := by
  obtain ⟨W0, hW0⟩ : ∃ W0, W0 = (((w.alloc (.cells #[.slice A1 l1.length c1, .slice A2 l2.length c2] 48)).alloc (.cells #[.slice A3 l3.length c3, .slice A4 l4.length c4] 48)).alloc (.cells #[.slice none 0 0, .slice none 0 0] 48 (0, 0))) := ⟨_, rfl⟩
  have HR1 : Aside0 (Kd.C k25 W0 A1 l1.length l1) := ⟨by rw [hW0]; exact Kd.C_alloc (Kd.C_alloc (Kd.C_alloc hr1 _) _) _⟩
  have HR2 : Aside0 (Kd.C k25 W0 A2 l2.length l2) := ⟨by rw [hW0]; exact Kd.C_alloc (Kd.C_alloc (Kd.C_alloc hr2 _) _) _⟩
  have HR3 : Aside0 (Kd.C k25 W0 A3 l3.length l3) := ⟨by rw [hW0]; exact Kd.C_alloc (Kd.C_alloc (Kd.C_alloc hr3 _) _) _⟩
  have HR4 : Aside0 (Kd.C k25 W0 A4 l4.length l4) := ⟨by rw [hW0]; exact Kd.C_alloc (Kd.C_alloc (Kd.C_alloc hr4 _) _) _⟩
  have HB0 : Aside0 (Below w.heap.size w W0) := ⟨by rw [hW0]; exact below_alloc (below_alloc (below_alloc (Below.refl _ _) _) _) _⟩
  have BA : Aside0 (Box W0 w.heap.size #[.slice A1 l1.length c1, .slice A2 l2.length c2]) := ⟨by rw [hW0]; exact fun c v h => cell?_alloc_old2 (cell?_alloc_old2 (Box.new w _ _ c v h) _) _⟩
  have BB : Aside0 (Box W0 (w.heap.size + 1) #[.slice A3 l3.length c3, .slice A4 l4.length c4]) := ⟨by rw [hW0]; exact fun c v h => cell?_alloc_old2 (by have q := Box.new (w.alloc (.cells #[.slice A1 l1.length c1, .slice A2 l2.length c2] 48)) #[.slice A3 l3.length c3, .slice A4 l4.length c4] 48 c v h; rw [alloc_size1] at q; exact q) _⟩
  have HK : Aside0 (W0.heap[w.heap.size + 1 + 1]? = some (.cells #[.slice none 0 0, .slice none 0 0] 48 (0, 0))) := ⟨by rw [hW0]; have q := blk_new ((w.alloc (.cells #[.slice A1 l1.length c1, .slice A2 l2.length c2] 48)).alloc (.cells #[.slice A3 l3.length c3, .slice A4 l4.length c4] 48)) (.cells #[.slice none 0 0, .slice none 0 0] 48 (0, 0)); rw [alloc_size1, alloc_size1] at q; exact q⟩
  have hz : W0.heap.size = w.heap.size + 1 + 1 + 1 := by rw [hW0, alloc_size1, alloc_size1, alloc_size1]
  have HG : Aside0 (w.heap.size ≤ W0.heap.size) := ⟨by omega⟩
  have HZ := Aside0.mk hz; have HW0 := Aside0.mk hW0; clear hz
  have HL : Aside0 (Below W0.heap.size W0 (((w.alloc (.cells #[.slice A1 l1.length c1, .slice A2 l2.length c2] 48)).alloc (.cells #[.slice A3 l3.length c3, .slice A4 l4.length c4] 48)).alloc (.cells #[.slice none 0 0, .slice none 0 0] 48 (0, 0)))) := ⟨by rw [HW0.out]; exact Below.refl _ _⟩
  clear hr1 hr2 hr3 hr4 hW0
  obtain ⟨s1, s2, _⟩ := lay_none q1; obtain ⟨s3, s4, _⟩ := lay_none q2
  have n1 := sortedR_len s1
  have n2 := sortedR_len s2
  have n3 := sortedR_len s3
  have n4 := sortedR_len s4
  have pa := fun W hi hj => rpart_calls A1 c1 l1 A3 c3 l3 true W hi hj (by omega)
  have pb := fun W hi hj => rpart_calls A2 c2 l2 A4 c4 l4 true W hi hj (by omega)
  have p1 := fun W hi hj => rpart_calls A1 c1 l1 A4 c4 l4 false W hi hj (by omega)
  have p2 := fun W hi hj => rpart_calls A3 c3 l3 A2 c2 l2 false W hi hj (by omega)
  have p3 := fun W hi hj => rpart_calls A2 c2 l2 A3 c3 l3 false W hi hj (by omega)
  have p4 := fun W hi hj => rpart_calls A4 c4 l4 A1 c1 l1 false W hi hj (by omega)
  have m14 : (partR l1 l4 false).length ≤ l1.length := List.length_filter_le _ _
  have m32 : (partR l3 l2 false).length ≤ l3.length := List.length_filter_le _ _
  have m23 : (partR l2 l3 false).length ≤ l2.length := List.length_filter_le _ _
  have m41 : (partR l4 l1 false).length ≤ l4.length := List.length_filter_le _ _
  have u1 := fun W A c A' c' h1 h2 => runion_calls A c (partR l1 l4 false) A' c' (partR l3 l2 false) W h1 h2 (by omega)
  have u2 := fun W A c A' c' h1 h2 => runion_calls A c (partR l2 l3 false) A' c' (partR l4 l1 false) W h1 h2 (by omega)
  have hth : thenR l1 l2 l3 l4 = if (partR l1 l3 true).length > 0 ∨ (partR l2 l4 true).length > 0 then (([], []), some 7) else if (unionR (partR l1 l4 false) (partR l3 l2 false)).length > 200 ∨ (unionR (partR l2 l3 false) (partR l4 l1 false)).length > 200 then (([], []), some 4) else ((unionR (partR l1 l4 false) (partR l3 l2 false), unionR (partR l2 l3 false) (partR l4 l1 false)), none) := by unfold thenR; rw [q1, q2]
  clear q1 q2 s1 s2 s3 s4 n1 n2 n3 n4 m14 m32 m23 m41
  generalize partR l1 l3 true = P1 at pa hth
  generalize partR l2 l4 true = P2 at pb hth
  generalize partR l1 l4 false = X1 at p1 u1 hth
  generalize partR l3 l2 false = X2 at p2 u1 hth
  generalize partR l2 l3 false = Y1 at p3 u2 hth
  generalize partR l4 l1 false = Y2 at p4 u2 hth
  generalize unionR X1 X2 = XA at u1 hth; generalize unionR Y1 Y2 = YT at u2 hth; have HTH := Aside0.mk hth; clear hth
  have HPA := Aside0.mk pa; have HPB := Aside0.mk pb; have HP1 := Aside0.mk p1; have HP2 := Aside0.mk p2; have HP3 := Aside0.mk p3; have HP4 := Aside0.mk p4; have HU1 := Aside0.mk u1; have HU2 := Aside0.mk u2
  clear pa pb p1 p2 p3 p4 u1 u2
  go_enter Tryz.func51, Tryz.ntmps51
  go_wp2_with (first | (go_at_call 48; refine stop_ ?_) | (go_at_call 53; refine stop_ ?_))
  refine ⟨?_⟩
  refine Calls.mono (HPA.out _ (Kd.C_below HR1.out (by repeat (first | exact HL.out | refine below_alloc ?_ _ | refine pw_below_drewN ?_ _ | refine below_drew1 ?_))) (Kd.C_below HR3.out (by repeat (first | exact HL.out | refine below_alloc ?_ _ | refine pw_below_drewN ?_ _ | refine below_drew1 ?_)))) ?_
  rintro e w' ⟨v, rfl, hv, hb⟩
  have HLn := Aside0.mk (below_step (show Below W0.heap.size W0 _ from (by repeat (first | exact HL.out | refine below_alloc ?_ _ | refine pw_below_drewN ?_ _ | refine below_drew1 ?_))) hb); clear HL; have HL := HLn; clear HLn; clear hb
  obtain ⟨Ap, cp, ep⟩ := Kd.R_slice hv
  subst ep
  clear hv
  have k1 := (Box.keep (Below.refl _ _) HL.out BA.out) 0 (.slice A1 l1.length c1) rfl
  have k2 := (Box.keep (Below.refl _ _) HL.out BA.out) 1 (.slice A2 l2.length c2) rfl
  have k3 := (Box.keep (Below.refl _ _) HL.out BB.out) 0 (.slice A3 l3.length c3) rfl
  have k4 := (Box.keep (Below.refl _ _) HL.out BB.out) 1 (.slice A4 l4.length c4) rfl
  go_wp2_with (first | (go_at_call 48; refine stop_ ?_) | (go_at_call 53; refine stop_ ?_))
  clear k1 k2 k3 k4
  refine ⟨?_⟩
  refine Calls.mono (HPB.out _ (Kd.C_below HR2.out (by repeat (first | exact HL.out | refine below_alloc ?_ _ | refine pw_below_drewN ?_ _ | refine below_drew1 ?_))) (Kd.C_below HR4.out (by repeat (first | exact HL.out | refine below_alloc ?_ _ | refine pw_below_drewN ?_ _ | refine below_drew1 ?_)))) ?_
  rintro e w' ⟨v, rfl, hv, hb⟩
  have HLn := Aside0.mk (below_step (show Below W0.heap.size W0 _ from (by repeat (first | exact HL.out | refine below_alloc ?_ _ | refine pw_below_drewN ?_ _ | refine below_drew1 ?_))) hb); clear HL; have HL := HLn; clear HLn; clear hb
  obtain ⟨Aq, cq, eq_⟩ := Kd.R_slice hv
  subst eq_
  clear hv
  by_cases hp : P1.length > 0
  · have HC := Aside0.mk hp
    have hpz : (P1.length : Int) > 0 := by omega
    have hpy : 0 < P1.length := hp
    clear hp
    have hk := blk_below HK.out HL.out; have r0 := (blk_cell hk 0).trans (show _ = some (Value.slice none 0 0) from rfl); have r1 := (blk_cell hk 1).trans (show _ = some (Value.slice none 0 0) from rfl); have f0 := blk_frozen hk 0; have f1 := blk_frozen hk 1; have HKW := Aside0.mk hk; clear hk
    go_wp2_with (first | (go_at_call 48; refine stop_ ?_) | (go_at_call 53; refine stop_ ?_))
    clear r0 r1 f0 f1
    have hz := HZ.out
    refine bodyPost_ret (results_ct rfl _ _ (w.heap.size + 1 + 1) 48 #[.slice none 0 0, .slice none 0 0] (0, 0) _ rfl (blk_put (cs := #[.slice none 0 0, .slice none 0 0]) (blk_put (cs := #[.slice none 0 0, .slice none 0 0]) HKW.out 0 _ rfl) 1 _ rfl) Tryz.underlying48 rfl (by kernel_rfl)) rfl ?_
    rw [HTH.out, if_pos (.inl HC.out)]
    exact ⟨_, rfl, ⟨_, _, rfl, Kd.R_nil _ _ _ _ _, Kd.R_nil _ _ _ _ _⟩, (by have h := HB0.out.trans (HL.out.mono HG.out); exact below_set (below_set h (by omega)) (by omega))⟩
  obtain rfl : P1 = [] := List.eq_nil_of_length_eq_zero (by omega)
  clear hp
  by_cases hq : P2.length > 0
  · have HC := Aside0.mk hq
    have hqz : (P2.length : Int) > 0 := by omega
    have hqy : 0 < P2.length := hq
    clear hq
    have hk := blk_below HK.out HL.out; have r0 := (blk_cell hk 0).trans (show _ = some (Value.slice none 0 0) from rfl); have r1 := (blk_cell hk 1).trans (show _ = some (Value.slice none 0 0) from rfl); have f0 := blk_frozen hk 0; have f1 := blk_frozen hk 1; have HKW := Aside0.mk hk; clear hk
    go_wp2_with (first | (go_at_call 48; refine stop_ ?_) | (go_at_call 53; refine stop_ ?_))
    clear r0 r1 f0 f1
    have hz := HZ.out
    refine bodyPost_ret (results_ct rfl _ _ (w.heap.size + 1 + 1) 48 #[.slice none 0 0, .slice none 0 0] (0, 0) _ rfl (blk_put (cs := #[.slice none 0 0, .slice none 0 0]) (blk_put (cs := #[.slice none 0 0, .slice none 0 0]) HKW.out 0 _ rfl) 1 _ rfl) Tryz.underlying48 rfl (by kernel_rfl)) rfl ?_
    rw [HTH.out, if_pos (.inr HC.out)]
    exact ⟨_, rfl, ⟨_, _, rfl, Kd.R_nil _ _ _ _ _, Kd.R_nil _ _ _ _ _⟩, (by have h := HB0.out.trans (HL.out.mono HG.out); exact below_set (below_set h (by omega)) (by omega))⟩
  obtain rfl : P2 = [] := List.eq_nil_of_length_eq_zero (by omega)
  clear hq
  have hth := HTH.out; rw [if_neg (by simp)] at hth; clear HTH; have HTH := Aside0.mk hth; clear hth
  have k1 := (Box.keep (Below.refl _ _) HL.out BA.out) 0 (.slice A1 l1.length c1) rfl
  have k2 := (Box.keep (Below.refl _ _) HL.out BA.out) 1 (.slice A2 l2.length c2) rfl
  have k3 := (Box.keep (Below.refl _ _) HL.out BB.out) 0 (.slice A3 l3.length c3) rfl
  have k4 := (Box.keep (Below.refl _ _) HL.out BB.out) 1 (.slice A4 l4.length c4) rfl
  go_wp2_with (first | (go_at_call 48; refine stop_ ?_) | (go_at_call 53; refine stop_ ?_))
  go_region_held3 (fun W => W.cell? ⟨w.heap.size, 0, none⟩ = some (.slice A1 l1.length c1) ∧ W.cell? ⟨w.heap.size, 1, none⟩ = some (.slice A2 l2.length c2) ∧ W.cell? ⟨w.heap.size + 1, 0, none⟩ = some (.slice A3 l3.length c3) ∧ W.cell? ⟨w.heap.size + 1, 1, none⟩ = some (.slice A4 l4.length c4)) (first | exact ⟨m1, m2, m3, m4⟩ | exact ⟨k1, k2, k3, k4⟩ | go_keep) (first | (go_at_call 48; ((with_reducible refine (HP1.out _ (Kd.C_below HR1.out (by repeat (first | exact HL.out | refine below_alloc ?_ _ | refine pw_below_drewN ?_ _ | refine below_drew1 ?_))) (Kd.C_below HR4.out (by repeat (first | exact HL.out | refine below_alloc ?_ _ | refine pw_below_drewN ?_ _ | refine below_drew1 ?_)))).mono ?_); rintro e w5 ⟨v, rfl, hv, hb⟩; obtain ⟨AX1, cX1, rfl, hCs, _⟩ := R_row' hv; have HRX1 := Aside0.mk hCs; clear hv hCs; have HLn := Aside0.mk (below_step (show Below W0.heap.size W0 _ from (by repeat (first | exact HL.out | refine below_alloc ?_ _ | refine pw_below_drewN ?_ _ | refine below_drew1 ?_))) hb); clear HL; have HL := HLn; clear HLn; have m1 := (Box.keep (Below.refl _ _) HL.out BA.out) 0 (.slice A1 l1.length c1) rfl; have m2 := (Box.keep (Below.refl _ _) HL.out BA.out) 1 (.slice A2 l2.length c2) rfl; have m3 := (Box.keep (Below.refl _ _) HL.out BB.out) 0 (.slice A3 l3.length c3) rfl; have m4 := (Box.keep (Below.refl _ _) HL.out BB.out) 1 (.slice A4 l4.length c4) rfl; clear hb)) | (go_at_call 48; ((with_reducible refine (HP2.out _ (Kd.C_below HR3.out (by repeat (first | exact HL.out | refine below_alloc ?_ _ | refine pw_below_drewN ?_ _ | refine below_drew1 ?_))) (Kd.C_below HR2.out (by repeat (first | exact HL.out | refine below_alloc ?_ _ | refine pw_below_drewN ?_ _ | refine below_drew1 ?_)))).mono ?_); rintro e w5 ⟨v, rfl, hv, hb⟩; obtain ⟨AX2, cX2, rfl, hCs, _⟩ := R_row' hv; have HRX2 := Aside0.mk hCs; have HRn := Aside0.mk (Kd.C_below (Kd.C_below HRX1.out (by repeat (first | exact Below.refl _ _ | refine below_alloc ?_ _ | refine pw_below_drewN ?_ _ | refine below_drew1 ?_))) hb); clear HRX1; have HRX1 := HRn; clear HRn; clear hv hCs; have HLn := Aside0.mk (below_step (show Below W0.heap.size W0 _ from (by repeat (first | exact HL.out | refine below_alloc ?_ _ | refine pw_below_drewN ?_ _ | refine below_drew1 ?_))) hb); clear HL; have HL := HLn; clear HLn; have m1 := (Box.keep (Below.refl _ _) HL.out BA.out) 0 (.slice A1 l1.length c1) rfl; have m2 := (Box.keep (Below.refl _ _) HL.out BA.out) 1 (.slice A2 l2.length c2) rfl; have m3 := (Box.keep (Below.refl _ _) HL.out BB.out) 0 (.slice A3 l3.length c3) rfl; have m4 := (Box.keep (Below.refl _ _) HL.out BB.out) 1 (.slice A4 l4.length c4) rfl; clear hb)) | (go_at_call 53; ((with_reducible refine (HU1.out _ AX1 cX1 AX2 cX2 HRX1.out HRX2.out).mono ?_); rintro e w6 ⟨v, rfl, hv, hb⟩; obtain ⟨AXA, cXA, eu⟩ := Kd.R_slice hv; subst eu; have HVA := Aside0.mk (Kd.R_lower hv (Nat.le_trans HG.out HL.out.size)); clear hv; have HLn := Aside0.mk (below_step (show Below W0.heap.size W0 _ from (by repeat (first | exact HL.out | refine below_alloc ?_ _ | refine pw_below_drewN ?_ _ | refine below_drew1 ?_))) hb); clear HL; have HL := HLn; clear HLn; have m1 := (Box.keep (Below.refl _ _) HL.out BA.out) 0 (.slice A1 l1.length c1) rfl; have m2 := (Box.keep (Below.refl _ _) HL.out BA.out) 1 (.slice A2 l2.length c2) rfl; have m3 := (Box.keep (Below.refl _ _) HL.out BB.out) 0 (.slice A3 l3.length c3) rfl; have m4 := (Box.keep (Below.refl _ _) HL.out BB.out) 1 (.slice A4 l4.length c4) rfl; clear hb)))
  clear k1 k2 k3 k4
  skip
  have k1 := (Box.keep (Below.refl _ _) HL.out BA.out) 0 (.slice A1 l1.length c1) rfl
  have k2 := (Box.keep (Below.refl _ _) HL.out BA.out) 1 (.slice A2 l2.length c2) rfl
  have k3 := (Box.keep (Below.refl _ _) HL.out BB.out) 0 (.slice A3 l3.length c3) rfl
  have k4 := (Box.keep (Below.refl _ _) HL.out BB.out) 1 (.slice A4 l4.length c4) rfl
  go_wp2_with (first | (go_at_call 48; refine stop_ ?_) | (go_at_call 53; refine stop_ ?_))
  go_region_held3 (fun W => W.cell? ⟨w.heap.size, 0, none⟩ = some (.slice A1 l1.length c1) ∧ W.cell? ⟨w.heap.size, 1, none⟩ = some (.slice A2 l2.length c2) ∧ W.cell? ⟨w.heap.size + 1, 0, none⟩ = some (.slice A3 l3.length c3) ∧ W.cell? ⟨w.heap.size + 1, 1, none⟩ = some (.slice A4 l4.length c4)) (first | exact ⟨m1, m2, m3, m4⟩ | exact ⟨k1, k2, k3, k4⟩ | go_keep) (first | (go_at_call 48; ((with_reducible refine (HP3.out _ (Kd.C_below HR2.out (by repeat (first | exact HL.out | refine below_alloc ?_ _ | refine pw_below_drewN ?_ _ | refine below_drew1 ?_))) (Kd.C_below HR3.out (by repeat (first | exact HL.out | refine below_alloc ?_ _ | refine pw_below_drewN ?_ _ | refine below_drew1 ?_)))).mono ?_); rintro e w5 ⟨v, rfl, hv, hb⟩; obtain ⟨AY1, cY1, rfl, hCs, _⟩ := R_row' hv; have HRY1 := Aside0.mk hCs; clear hv hCs; have HLn := Aside0.mk (below_step (show Below W0.heap.size W0 _ from (by repeat (first | exact HL.out | refine below_alloc ?_ _ | refine pw_below_drewN ?_ _ | refine below_drew1 ?_))) hb); clear HL; have HL := HLn; clear HLn; have HVn := Aside0.mk (Kd.R_below (Kd.R_below HVA.out (by repeat (first | exact Below.refl _ _ | refine below_alloc ?_ _ | refine pw_below_drewN ?_ _ | refine below_drew1 ?_))) hb); clear HVA; have HVA := HVn; clear HVn; have m1 := (Box.keep (Below.refl _ _) HL.out BA.out) 0 (.slice A1 l1.length c1) rfl; have m2 := (Box.keep (Below.refl _ _) HL.out BA.out) 1 (.slice A2 l2.length c2) rfl; have m3 := (Box.keep (Below.refl _ _) HL.out BB.out) 0 (.slice A3 l3.length c3) rfl; have m4 := (Box.keep (Below.refl _ _) HL.out BB.out) 1 (.slice A4 l4.length c4) rfl; clear hb)) | (go_at_call 48; ((with_reducible refine (HP4.out _ (Kd.C_below HR4.out (by repeat (first | exact HL.out | refine below_alloc ?_ _ | refine pw_below_drewN ?_ _ | refine below_drew1 ?_))) (Kd.C_below HR1.out (by repeat (first | exact HL.out | refine below_alloc ?_ _ | refine pw_below_drewN ?_ _ | refine below_drew1 ?_)))).mono ?_); rintro e w5 ⟨v, rfl, hv, hb⟩; obtain ⟨AY2, cY2, rfl, hCs, _⟩ := R_row' hv; have HRY2 := Aside0.mk hCs; have HRn := Aside0.mk (Kd.C_below (Kd.C_below HRY1.out (by repeat (first | exact Below.refl _ _ | refine below_alloc ?_ _ | refine pw_below_drewN ?_ _ | refine below_drew1 ?_))) hb); clear HRY1; have HRY1 := HRn; clear HRn; clear hv hCs; have HLn := Aside0.mk (below_step (show Below W0.heap.size W0 _ from (by repeat (first | exact HL.out | refine below_alloc ?_ _ | refine pw_below_drewN ?_ _ | refine below_drew1 ?_))) hb); clear HL; have HL := HLn; clear HLn; have HVn := Aside0.mk (Kd.R_below (Kd.R_below HVA.out (by repeat (first | exact Below.refl _ _ | refine below_alloc ?_ _ | refine pw_below_drewN ?_ _ | refine below_drew1 ?_))) hb); clear HVA; have HVA := HVn; clear HVn; have m1 := (Box.keep (Below.refl _ _) HL.out BA.out) 0 (.slice A1 l1.length c1) rfl; have m2 := (Box.keep (Below.refl _ _) HL.out BA.out) 1 (.slice A2 l2.length c2) rfl; have m3 := (Box.keep (Below.refl _ _) HL.out BB.out) 0 (.slice A3 l3.length c3) rfl; have m4 := (Box.keep (Below.refl _ _) HL.out BB.out) 1 (.slice A4 l4.length c4) rfl; clear hb)) | (go_at_call 53; ((with_reducible refine (HU2.out _ AY1 cY1 AY2 cY2 HRY1.out HRY2.out).mono ?_); rintro e w6 ⟨v, rfl, hv, hb⟩; obtain ⟨AYT, cYT, eu⟩ := Kd.R_slice hv; subst eu; have HVT := Aside0.mk (Kd.R_lower hv (Nat.le_trans HG.out HL.out.size)); clear hv; have HLn := Aside0.mk (below_step (show Below W0.heap.size W0 _ from (by repeat (first | exact HL.out | refine below_alloc ?_ _ | refine pw_below_drewN ?_ _ | refine below_drew1 ?_))) hb); clear HL; have HL := HLn; clear HLn; have HVn := Aside0.mk (Kd.R_below (Kd.R_below HVA.out (by repeat (first | exact Below.refl _ _ | refine below_alloc ?_ _ | refine pw_below_drewN ?_ _ | refine below_drew1 ?_))) hb); clear HVA; have HVA := HVn; clear HVn; have m1 := (Box.keep (Below.refl _ _) HL.out BA.out) 0 (.slice A1 l1.length c1) rfl; have m2 := (Box.keep (Below.refl _ _) HL.out BA.out) 1 (.slice A2 l2.length c2) rfl; have m3 := (Box.keep (Below.refl _ _) HL.out BB.out) 0 (.slice A3 l3.length c3) rfl; have m4 := (Box.keep (Below.refl _ _) HL.out BB.out) 1 (.slice A4 l4.length c4) rfl; clear hb)))
  clear k1 k2 k3 k4
  by_cases hA : XA.length > 200
  · have HC := Aside0.mk hA
    have hAz : (XA.length : Int) > 200 := by omega
    clear hA
    have hk := blk_below HK.out HL.out; have r0 := (blk_cell hk 0).trans (show _ = some (Value.slice none 0 0) from rfl); have r1 := (blk_cell hk 1).trans (show _ = some (Value.slice none 0 0) from rfl); have f0 := blk_frozen hk 0; have f1 := blk_frozen hk 1; have HKW := Aside0.mk hk; clear hk
    go_wp2
    clear r0 r1 f0 f1
    have hz := HZ.out
    refine bodyPost_ret (results_ct rfl _ _ (w.heap.size + 1 + 1) 48 #[.slice none 0 0, .slice none 0 0] (0, 0) _ rfl (blk_put (cs := #[.slice none 0 0, .slice none 0 0]) (blk_put (cs := #[.slice none 0 0, .slice none 0 0]) HKW.out 0 _ rfl) 1 _ rfl) Tryz.underlying48 rfl (by kernel_rfl)) rfl ?_
    rw [HTH.out, if_pos (.inl HC.out)]
    exact ⟨_, rfl, ⟨_, _, rfl, Kd.R_nil _ _ _ _ _, Kd.R_nil _ _ _ _ _⟩, (by have h := HB0.out.trans (HL.out.mono HG.out); exact below_set (below_set h (by omega)) (by omega))⟩
  by_cases hT : YT.length > 200
  · have HC := Aside0.mk hT
    have hAz : ¬ (XA.length : Int) > 200 := by omega
    have hTz : (YT.length : Int) > 200 := by omega
    clear hA hT
    have hk := blk_below HK.out HL.out; have r0 := (blk_cell hk 0).trans (show _ = some (Value.slice none 0 0) from rfl); have r1 := (blk_cell hk 1).trans (show _ = some (Value.slice none 0 0) from rfl); have f0 := blk_frozen hk 0; have f1 := blk_frozen hk 1; have HKW := Aside0.mk hk; clear hk
    go_wp2
    clear r0 r1 f0 f1
    have hz := HZ.out
    refine bodyPost_ret (results_ct rfl _ _ (w.heap.size + 1 + 1) 48 #[.slice none 0 0, .slice none 0 0] (0, 0) _ rfl (blk_put (cs := #[.slice none 0 0, .slice none 0 0]) (blk_put (cs := #[.slice none 0 0, .slice none 0 0]) HKW.out 0 _ rfl) 1 _ rfl) Tryz.underlying48 rfl (by kernel_rfl)) rfl ?_
    rw [HTH.out, if_pos (.inr HC.out)]
    exact ⟨_, rfl, ⟨_, _, rfl, Kd.R_nil _ _ _ _ _, Kd.R_nil _ _ _ _ _⟩, (by have h := HB0.out.trans (HL.out.mono HG.out); exact below_set (below_set h (by omega)) (by omega))⟩
  have hth := HTH.out; rw [if_neg (by omega)] at hth; clear HTH; have HTH := Aside0.mk hth; clear hth
  have hAz : ¬ (XA.length : Int) > 200 := by omega
  have hTz : ¬ (YT.length : Int) > 200 := by omega
  clear hA hT
  have hk := blk_below HK.out HL.out; have r0 := (blk_cell hk 0).trans (show _ = some (Value.slice none 0 0) from rfl); have r1 := (blk_cell hk 1).trans (show _ = some (Value.slice none 0 0) from rfl); have f0 := blk_frozen hk 0; have f1 := blk_frozen hk 1; have HKW := Aside0.mk hk; clear hk
  go_wp2
  clear r0 r1 f0 f1
  have hz := HZ.out
  refine bodyPost_ret (results_ct rfl _ _ (w.heap.size + 1 + 1) 48 #[.slice AXA XA.length cXA, .slice AYT YT.length cYT] (0, 0) _ rfl (blk_put (cs := #[.slice AXA XA.length cXA, .slice none 0 0]) (blk_put (cs := #[.slice none 0 0, .slice none 0 0]) HKW.out 0 _ rfl) 1 _ rfl) Tryz.underlying48 rfl (by kernel_rfl)) rfl ?_
  rw [HTH.out]
  exact ⟨_, rfl, ⟨_, _, rfl, Kd.R_set (Kd.R_set HVA.out HKW.out (by decide) 0 _) (blk_put HKW.out 0 _ rfl) (by decide) 1 _, Kd.R_set (Kd.R_set HVT.out HKW.out (by decide) 0 _) (blk_put HKW.out 0 _ rfl) (by decide) 1 _⟩, (by have h := HB0.out.trans (HL.out.mono HG.out); exact below_set (below_set h (by omega)) (by omega))⟩
end Go.Proofs.YtdjamphmndbmjaaGreatDoor.M

/- Package layer: Apply (printed by wip/gen_lay2.py). -/
namespace Go.Proofs.YtdjamphmndbmjaaGreatDoor.M
open Go.RowKit Go.Proofs.YtdjamphmndbmjaaGreatDoorW.PrintWords Go.Proofs.YtdjamphmndbmjaaGreatDoorW.PrintLast Go.Proofs.YtdjamphmndbmjaaGreatDoorW.PrintMore
set_option linter.unusedVariables false
set_option linter.unusedSimpArgs false

theorem union_R (A0 : Option Addr) (c0 : Nat) (l0 : List S25) (A1 : Option Addr) (c1 : Nat) (l1 : List S25) (w : World) (hr0 : Kd.C k25 w A0 l0.length l0) (hc0 : l0.length ≤ c0) (hr1 : Kd.C k25 w A1 l1.length l1) (hc1 : l1.length ≤ c1) (hl : (l0.length + l1.length) * 120 ≤ 140737488355328) :
    Calls Tryz.prog 108 #[.slice A0 l0.length c0, .slice A1 l1.length c1] w fun e w' => ∃ v, e = .returned v ∧ Kd.R k25 25 w' w.heap.size (fun _ => True) v (unionR l0 l1) ∧ Below w.heap.size w w' :=
  set_Union.calls A0 c0 l0 A1 c1 l1 (unionR l0 l1) w hr0 hc0 hr1 hc1 (by unfold set_Union.f; rw [if_pos hl])
theorem R_row {w : World} {base : Nat} {v : Value} {l : List S25} (h : Kd.R k25 25 w base (fun _ => True) v l) : ∃ A c, v = .slice A l.length c ∧ Kd.C k25 w A l.length l ∧ l.length ≤ c := Row.of_R h
set_option maxHeartbeats 4000000 in
set_option maxRecDepth 100000 in
theorem apply_calls (A0 : Option Addr) (c0 : Nat) (l0 : List S25) (A1 : Option Addr) (c1 : Nat) (l1 : List S25) (A2 : Option Addr) (c2 : Nat) (l2 : List S25) (w : World) (hr0 : Kd.C k25 w A0 l0.length l0) (hc0 : l0.length ≤ c0) (hr1 : Kd.C k25 w A1 l1.length l1) (hc1 : l1.length ≤ c1) (hr2 : Kd.C k25 w A2 l2.length l2) (hc2 : l2.length ≤ c2) :
    Calls Tryz.prog 46 #[.slice A0 l0.length c0, .agg #[.slice A1 l1.length c1, .slice A2 l2.length c2]] w fun e w' => ∃ v, e = .returned (.tuple #[v, errW (applyR l0 l1 l2).2]) ∧ Kd.R k25 25 w' w.heap.size (fun _ => True) v (applyR l0 l1 l2).1 ∧ Below w.heap.size w w' := by
  have HR0 := Aside0.mk hr0; have HR1 := Aside0.mk hr1; have HR2 := Aside0.mk hr2; have HB := Aside0.mk (Below.refl w.heap.size w)
  have Bl : Aside0 (Box (w.alloc (.cells #[.slice A1 l1.length c1, .slice A2 l2.length c2] 48)) w.heap.size #[.slice A1 l1.length c1, .slice A2 l2.length c2]) := ⟨Box.new _ _ _⟩
  have hright := fun W g0 h0 hC0 => right1_calls g0 A0 c0 l0 W h0 hC0 hc0
  have hchk := fun W hC1 hC2 => lcheck_calls A1 c1 l1 A2 c2 l2 W hC1 hc1 hC2 hc2
  cases hr : sortedR l0 with
  | some n =>
    rw [show applyR l0 l1 l2 = ([], some n) by unfold applyR; rw [hr]]
    rw [hr] at hright
    have HRT := Aside0.mk hright
    clear hr0 hr1 hr2 hright hchk hr
    go_enter Tryz.func46, Tryz.ntmps46
    go_wp2_with (first | (go_at_call 106; refine stop_ ?_) | (go_at_call 44; refine stop_ ?_) | (go_at_call 107; refine stop_ ?_))
    refine ⟨?_⟩
    refine Calls.mono (HRT.out _ _ (cells1b w _ A0 c0 _ _) (Kd.C_alloc (Kd.C_alloc HR0.out _) _)) ?_
    rintro e w' ⟨he, hb⟩
    have n0 := Aside0.mk (Kd.C_below (Kd.C_below HR0.out (by repeat (first | exact Below.refl _ _ | refine below_alloc ?_ _ | refine pw_below_drewN ?_ _ | refine below_drew1 ?_ | refine below_set ?_ (Nat.le_refl _)))) hb); have n1 := Aside0.mk (Kd.C_below (Kd.C_below HR1.out (by repeat (first | exact Below.refl _ _ | refine below_alloc ?_ _ | refine pw_below_drewN ?_ _ | refine below_drew1 ?_ | refine below_set ?_ (Nat.le_refl _)))) hb); have n2 := Aside0.mk (Kd.C_below (Kd.C_below HR2.out (by repeat (first | exact Below.refl _ _ | refine below_alloc ?_ _ | refine pw_below_drewN ?_ _ | refine below_drew1 ?_ | refine below_set ?_ (Nat.le_refl _)))) hb); have bl := Aside0.mk (Box.keep (by repeat (first | exact Below.refl _ _ | refine below_alloc ?_ _ | refine pw_below_drewN ?_ _ | refine below_drew1 ?_ | refine below_set ?_ (Nat.le_refl _))) hb Bl.out); have nb := Aside0.mk (below_step (below_step HB.out (by repeat (first | exact Below.refl _ _ | refine below_alloc ?_ _ | refine pw_below_drewN ?_ _ | refine below_drew1 ?_ | refine below_set ?_ (Nat.le_refl _)))) hb); clear HB HR0 HR1 HR2 Bl; have HB := nb; have HR0 := n0; have HR1 := n1; have HR2 := n2; have Bl := bl; clear nb n0 n1 n2 bl; have k0 := Bl.out 0 (.slice A1 l1.length c1) rfl; have k1 := Bl.out 1 (.slice A2 l2.length c2) rfl; clear hb
    rw [errW_some] at he; subst he
    go_wp2_with (first | (go_at_call 106; refine stop_ ?_) | (go_at_call 44; refine stop_ ?_) | (go_at_call 107; refine stop_ ?_))
    go_ret2
    exact ⟨_, rfl, Kd.R_nil _ _ _ _ _, HB.out⟩
  | none =>
    rw [hr] at hright
    have HRT := Aside0.mk hright
    cases he : layErr l1 l2 with
    | some n =>
      rw [show applyR l0 l1 l2 = ([], some n) by unfold applyR; rw [hr, he]]
      rw [he] at hchk
      have HCK := Aside0.mk hchk
      clear hr0 hr1 hr2 hright hchk hr he
      go_enter Tryz.func46, Tryz.ntmps46
      go_wp2_with (first | (go_at_call 106; refine stop_ ?_) | (go_at_call 44; refine stop_ ?_) | (go_at_call 107; refine stop_ ?_))
      refine ⟨?_⟩
      refine Calls.mono (HRT.out _ _ (cells1b w _ A0 c0 _ _) (Kd.C_alloc (Kd.C_alloc HR0.out _) _)) ?_
      rintro e w' ⟨he, hb⟩
      have n0 := Aside0.mk (Kd.C_below (Kd.C_below HR0.out (by repeat (first | exact Below.refl _ _ | refine below_alloc ?_ _ | refine pw_below_drewN ?_ _ | refine below_drew1 ?_ | refine below_set ?_ (Nat.le_refl _)))) hb); have n1 := Aside0.mk (Kd.C_below (Kd.C_below HR1.out (by repeat (first | exact Below.refl _ _ | refine below_alloc ?_ _ | refine pw_below_drewN ?_ _ | refine below_drew1 ?_ | refine below_set ?_ (Nat.le_refl _)))) hb); have n2 := Aside0.mk (Kd.C_below (Kd.C_below HR2.out (by repeat (first | exact Below.refl _ _ | refine below_alloc ?_ _ | refine pw_below_drewN ?_ _ | refine below_drew1 ?_ | refine below_set ?_ (Nat.le_refl _)))) hb); have bl := Aside0.mk (Box.keep (by repeat (first | exact Below.refl _ _ | refine below_alloc ?_ _ | refine pw_below_drewN ?_ _ | refine below_drew1 ?_ | refine below_set ?_ (Nat.le_refl _))) hb Bl.out); have nb := Aside0.mk (below_step (below_step HB.out (by repeat (first | exact Below.refl _ _ | refine below_alloc ?_ _ | refine pw_below_drewN ?_ _ | refine below_drew1 ?_ | refine below_set ?_ (Nat.le_refl _)))) hb); clear HB HR0 HR1 HR2 Bl; have HB := nb; have HR0 := n0; have HR1 := n1; have HR2 := n2; have Bl := bl; clear nb n0 n1 n2 bl; have k0 := Bl.out 0 (.slice A1 l1.length c1) rfl; have k1 := Bl.out 1 (.slice A2 l2.length c2) rfl; clear hb
      rw [errW_none] at he; subst he
      go_wp2_with (first | (go_at_call 106; refine stop_ ?_) | (go_at_call 44; refine stop_ ?_) | (go_at_call 107; refine stop_ ?_))
      clear k0 k1
      refine ⟨?_⟩
      refine Calls.mono (HCK.out _ (Kd.C_below HR1.out (by repeat (first | exact Below.refl _ _ | refine below_alloc ?_ _ | refine pw_below_drewN ?_ _ | refine below_drew1 ?_ | refine below_set ?_ (Nat.le_refl _)))) (Kd.C_below HR2.out (by repeat (first | exact Below.refl _ _ | refine below_alloc ?_ _ | refine pw_below_drewN ?_ _ | refine below_drew1 ?_ | refine below_set ?_ (Nat.le_refl _))))) ?_
      rintro e w' ⟨he, hb⟩
      have n0 := Aside0.mk (Kd.C_below (Kd.C_below HR0.out (by repeat (first | exact Below.refl _ _ | refine below_alloc ?_ _ | refine pw_below_drewN ?_ _ | refine below_drew1 ?_ | refine below_set ?_ (Nat.le_refl _)))) hb); have n1 := Aside0.mk (Kd.C_below (Kd.C_below HR1.out (by repeat (first | exact Below.refl _ _ | refine below_alloc ?_ _ | refine pw_below_drewN ?_ _ | refine below_drew1 ?_ | refine below_set ?_ (Nat.le_refl _)))) hb); have n2 := Aside0.mk (Kd.C_below (Kd.C_below HR2.out (by repeat (first | exact Below.refl _ _ | refine below_alloc ?_ _ | refine pw_below_drewN ?_ _ | refine below_drew1 ?_ | refine below_set ?_ (Nat.le_refl _)))) hb); have bl := Aside0.mk (Box.keep (by repeat (first | exact Below.refl _ _ | refine below_alloc ?_ _ | refine pw_below_drewN ?_ _ | refine below_drew1 ?_ | refine below_set ?_ (Nat.le_refl _))) hb Bl.out); have nb := Aside0.mk (below_step (below_step HB.out (by repeat (first | exact Below.refl _ _ | refine below_alloc ?_ _ | refine pw_below_drewN ?_ _ | refine below_drew1 ?_ | refine below_set ?_ (Nat.le_refl _)))) hb); clear HB HR0 HR1 HR2 Bl; have HB := nb; have HR0 := n0; have HR1 := n1; have HR2 := n2; have Bl := bl; clear nb n0 n1 n2 bl; have k0 := Bl.out 0 (.slice A1 l1.length c1) rfl; have k1 := Bl.out 1 (.slice A2 l2.length c2) rfl; clear hb
      rw [errW_some] at he; subst he
      go_wp2_with (first | (go_at_call 106; refine stop_ ?_) | (go_at_call 44; refine stop_ ?_) | (go_at_call 107; refine stop_ ?_))
      go_ret2
      exact ⟨_, rfl, Kd.R_nil _ _ _ _ _, HB.out⟩
    | none =>
      rw [he] at hchk
      have HCK := Aside0.mk hchk
      obtain ⟨hs1, hs2, _⟩ := lay_none he
      have n0 := sortedR_len hr; have n1 := sortedR_len hs1; have n2 := sortedR_len hs2
      have hp := fun W hC1 hC0 => part_R A1 c1 l1 A0 c0 l0 true W hC1 hc1 hC0 hc0 (by omega) hr
      have hq := fun W hC2 hC0 => part_R A2 c2 l2 A0 c0 l0 false W hC2 hc2 hC0 hc0 (by omega) hr
      have hs := fun W hC0 hC2 => part_R A0 c0 l0 A2 c2 l2 false W hC0 hc0 hC2 hc2 (by omega) hs2
      have n3 : (partR l0 l2 false).length ≤ l0.length := List.length_filter_le _ _
      have hu := fun W A c hC hc hC1 => union_R A c (partR l0 l2 false) A1 c1 l1 W hC hc hC1 hc1 (by omega)
      rw [show applyR l0 l1 l2 = if (partR l1 l0 true).length > 0 then ([], some 7) else if (partR l2 l0 false).length > 0 then ([], some 5) else if (unionR (partR l0 l2 false) l1).length > 200 then ([], some 4) else (unionR (partR l0 l2 false) l1, none) by unfold applyR; rw [hr, he]]
      clear hr he hs1 hs2 n0 n1 n2 n3 hright hchk hr0 hr1 hr2
      generalize partR l1 l0 true = p at hp ⊢
      generalize partR l2 l0 false = q at hq ⊢
      generalize partR l0 l2 false = s at hs hu ⊢
      generalize unionR s l1 = u at hu ⊢
      have HP := Aside0.mk hp; have HQ := Aside0.mk hq; have HS := Aside0.mk hs; have HU := Aside0.mk hu
      clear hp hq hs hu
      by_cases hp : p.length > 0
      · rw [if_pos hp]
        have hpz : (p.length : Int) > 0 := by omega
        have hpy : 0 < p.length := hp
        clear hp
        go_enter Tryz.func46, Tryz.ntmps46
        go_wp2_with (first | (go_at_call 106; refine stop_ ?_) | (go_at_call 44; refine stop_ ?_) | (go_at_call 107; refine stop_ ?_))
        refine ⟨?_⟩
        refine Calls.mono (HRT.out _ _ (cells1b w _ A0 c0 _ _) (Kd.C_alloc (Kd.C_alloc HR0.out _) _)) ?_
        rintro e w' ⟨he, hb⟩
        have n0 := Aside0.mk (Kd.C_below (Kd.C_below HR0.out (by repeat (first | exact Below.refl _ _ | refine below_alloc ?_ _ | refine pw_below_drewN ?_ _ | refine below_drew1 ?_ | refine below_set ?_ (Nat.le_refl _)))) hb); have n1 := Aside0.mk (Kd.C_below (Kd.C_below HR1.out (by repeat (first | exact Below.refl _ _ | refine below_alloc ?_ _ | refine pw_below_drewN ?_ _ | refine below_drew1 ?_ | refine below_set ?_ (Nat.le_refl _)))) hb); have n2 := Aside0.mk (Kd.C_below (Kd.C_below HR2.out (by repeat (first | exact Below.refl _ _ | refine below_alloc ?_ _ | refine pw_below_drewN ?_ _ | refine below_drew1 ?_ | refine below_set ?_ (Nat.le_refl _)))) hb); have bl := Aside0.mk (Box.keep (by repeat (first | exact Below.refl _ _ | refine below_alloc ?_ _ | refine pw_below_drewN ?_ _ | refine below_drew1 ?_ | refine below_set ?_ (Nat.le_refl _))) hb Bl.out); have nb := Aside0.mk (below_step (below_step HB.out (by repeat (first | exact Below.refl _ _ | refine below_alloc ?_ _ | refine pw_below_drewN ?_ _ | refine below_drew1 ?_ | refine below_set ?_ (Nat.le_refl _)))) hb); clear HB HR0 HR1 HR2 Bl; have HB := nb; have HR0 := n0; have HR1 := n1; have HR2 := n2; have Bl := bl; clear nb n0 n1 n2 bl; have k0 := Bl.out 0 (.slice A1 l1.length c1) rfl; have k1 := Bl.out 1 (.slice A2 l2.length c2) rfl; clear hb
        rw [errW_none] at he; subst he
        go_wp2_with (first | (go_at_call 106; refine stop_ ?_) | (go_at_call 44; refine stop_ ?_) | (go_at_call 107; refine stop_ ?_))
        clear k0 k1
        refine ⟨?_⟩
        refine Calls.mono (HCK.out _ (Kd.C_below HR1.out (by repeat (first | exact Below.refl _ _ | refine below_alloc ?_ _ | refine pw_below_drewN ?_ _ | refine below_drew1 ?_ | refine below_set ?_ (Nat.le_refl _)))) (Kd.C_below HR2.out (by repeat (first | exact Below.refl _ _ | refine below_alloc ?_ _ | refine pw_below_drewN ?_ _ | refine below_drew1 ?_ | refine below_set ?_ (Nat.le_refl _))))) ?_
        rintro e w' ⟨he, hb⟩
        have n0 := Aside0.mk (Kd.C_below (Kd.C_below HR0.out (by repeat (first | exact Below.refl _ _ | refine below_alloc ?_ _ | refine pw_below_drewN ?_ _ | refine below_drew1 ?_ | refine below_set ?_ (Nat.le_refl _)))) hb); have n1 := Aside0.mk (Kd.C_below (Kd.C_below HR1.out (by repeat (first | exact Below.refl _ _ | refine below_alloc ?_ _ | refine pw_below_drewN ?_ _ | refine below_drew1 ?_ | refine below_set ?_ (Nat.le_refl _)))) hb); have n2 := Aside0.mk (Kd.C_below (Kd.C_below HR2.out (by repeat (first | exact Below.refl _ _ | refine below_alloc ?_ _ | refine pw_below_drewN ?_ _ | refine below_drew1 ?_ | refine below_set ?_ (Nat.le_refl _)))) hb); have bl := Aside0.mk (Box.keep (by repeat (first | exact Below.refl _ _ | refine below_alloc ?_ _ | refine pw_below_drewN ?_ _ | refine below_drew1 ?_ | refine below_set ?_ (Nat.le_refl _))) hb Bl.out); have nb := Aside0.mk (below_step (below_step HB.out (by repeat (first | exact Below.refl _ _ | refine below_alloc ?_ _ | refine pw_below_drewN ?_ _ | refine below_drew1 ?_ | refine below_set ?_ (Nat.le_refl _)))) hb); clear HB HR0 HR1 HR2 Bl; have HB := nb; have HR0 := n0; have HR1 := n1; have HR2 := n2; have Bl := bl; clear nb n0 n1 n2 bl; have k0 := Bl.out 0 (.slice A1 l1.length c1) rfl; have k1 := Bl.out 1 (.slice A2 l2.length c2) rfl; clear hb
        rw [errW_none] at he; subst he
        go_wp2_with (first | (go_at_call 106; refine stop_ ?_) | (go_at_call 44; refine stop_ ?_) | (go_at_call 107; refine stop_ ?_))
        clear k0 k1
        refine ⟨?_⟩
        refine Calls.mono (HP.out _ (Kd.C_below HR1.out (by repeat (first | exact Below.refl _ _ | refine below_alloc ?_ _ | refine pw_below_drewN ?_ _ | refine below_drew1 ?_ | refine below_set ?_ (Nat.le_refl _)))) (Kd.C_below HR0.out (by repeat (first | exact Below.refl _ _ | refine below_alloc ?_ _ | refine pw_below_drewN ?_ _ | refine below_drew1 ?_ | refine below_set ?_ (Nat.le_refl _))))) ?_
        rintro e w' ⟨v, rfl, hv, hb⟩
        have n0 := Aside0.mk (Kd.C_below (Kd.C_below HR0.out (by repeat (first | exact Below.refl _ _ | refine below_alloc ?_ _ | refine pw_below_drewN ?_ _ | refine below_drew1 ?_ | refine below_set ?_ (Nat.le_refl _)))) hb); have n1 := Aside0.mk (Kd.C_below (Kd.C_below HR1.out (by repeat (first | exact Below.refl _ _ | refine below_alloc ?_ _ | refine pw_below_drewN ?_ _ | refine below_drew1 ?_ | refine below_set ?_ (Nat.le_refl _)))) hb); have n2 := Aside0.mk (Kd.C_below (Kd.C_below HR2.out (by repeat (first | exact Below.refl _ _ | refine below_alloc ?_ _ | refine pw_below_drewN ?_ _ | refine below_drew1 ?_ | refine below_set ?_ (Nat.le_refl _)))) hb); have bl := Aside0.mk (Box.keep (by repeat (first | exact Below.refl _ _ | refine below_alloc ?_ _ | refine pw_below_drewN ?_ _ | refine below_drew1 ?_ | refine below_set ?_ (Nat.le_refl _))) hb Bl.out); have nb := Aside0.mk (below_step (below_step HB.out (by repeat (first | exact Below.refl _ _ | refine below_alloc ?_ _ | refine pw_below_drewN ?_ _ | refine below_drew1 ?_ | refine below_set ?_ (Nat.le_refl _)))) hb); clear HB HR0 HR1 HR2 Bl; have HB := nb; have HR0 := n0; have HR1 := n1; have HR2 := n2; have Bl := bl; clear nb n0 n1 n2 bl; have k0 := Bl.out 0 (.slice A1 l1.length c1) rfl; have k1 := Bl.out 1 (.slice A2 l2.length c2) rfl; clear hb
        obtain ⟨Ap, cp, ep⟩ := Kd.R_slice hv
        subst ep
        clear hv
        go_wp2_with (first | (go_at_call 106; refine stop_ ?_) | (go_at_call 44; refine stop_ ?_) | (go_at_call 107; refine stop_ ?_))
        go_ret2
        exact ⟨_, rfl, Kd.R_nil _ _ _ _ _, HB.out⟩
      · rw [if_neg hp]
        obtain rfl : p = [] := List.eq_nil_of_length_eq_zero (by omega)
        clear hp
        by_cases hq : q.length > 0
        · rw [if_pos hq]
          have hqz : (q.length : Int) > 0 := by omega
          have hqy : 0 < q.length := hq
          clear hq
          go_enter Tryz.func46, Tryz.ntmps46
          go_wp2_with (first | (go_at_call 106; refine stop_ ?_) | (go_at_call 44; refine stop_ ?_) | (go_at_call 107; refine stop_ ?_))
          refine ⟨?_⟩
          refine Calls.mono (HRT.out _ _ (cells1b w _ A0 c0 _ _) (Kd.C_alloc (Kd.C_alloc HR0.out _) _)) ?_
          rintro e w' ⟨he, hb⟩
          have n0 := Aside0.mk (Kd.C_below (Kd.C_below HR0.out (by repeat (first | exact Below.refl _ _ | refine below_alloc ?_ _ | refine pw_below_drewN ?_ _ | refine below_drew1 ?_ | refine below_set ?_ (Nat.le_refl _)))) hb); have n1 := Aside0.mk (Kd.C_below (Kd.C_below HR1.out (by repeat (first | exact Below.refl _ _ | refine below_alloc ?_ _ | refine pw_below_drewN ?_ _ | refine below_drew1 ?_ | refine below_set ?_ (Nat.le_refl _)))) hb); have n2 := Aside0.mk (Kd.C_below (Kd.C_below HR2.out (by repeat (first | exact Below.refl _ _ | refine below_alloc ?_ _ | refine pw_below_drewN ?_ _ | refine below_drew1 ?_ | refine below_set ?_ (Nat.le_refl _)))) hb); have bl := Aside0.mk (Box.keep (by repeat (first | exact Below.refl _ _ | refine below_alloc ?_ _ | refine pw_below_drewN ?_ _ | refine below_drew1 ?_ | refine below_set ?_ (Nat.le_refl _))) hb Bl.out); have nb := Aside0.mk (below_step (below_step HB.out (by repeat (first | exact Below.refl _ _ | refine below_alloc ?_ _ | refine pw_below_drewN ?_ _ | refine below_drew1 ?_ | refine below_set ?_ (Nat.le_refl _)))) hb); clear HB HR0 HR1 HR2 Bl; have HB := nb; have HR0 := n0; have HR1 := n1; have HR2 := n2; have Bl := bl; clear nb n0 n1 n2 bl; have k0 := Bl.out 0 (.slice A1 l1.length c1) rfl; have k1 := Bl.out 1 (.slice A2 l2.length c2) rfl; clear hb
          rw [errW_none] at he; subst he
          go_wp2_with (first | (go_at_call 106; refine stop_ ?_) | (go_at_call 44; refine stop_ ?_) | (go_at_call 107; refine stop_ ?_))
          clear k0 k1
          refine ⟨?_⟩
          refine Calls.mono (HCK.out _ (Kd.C_below HR1.out (by repeat (first | exact Below.refl _ _ | refine below_alloc ?_ _ | refine pw_below_drewN ?_ _ | refine below_drew1 ?_ | refine below_set ?_ (Nat.le_refl _)))) (Kd.C_below HR2.out (by repeat (first | exact Below.refl _ _ | refine below_alloc ?_ _ | refine pw_below_drewN ?_ _ | refine below_drew1 ?_ | refine below_set ?_ (Nat.le_refl _))))) ?_
          rintro e w' ⟨he, hb⟩
          have n0 := Aside0.mk (Kd.C_below (Kd.C_below HR0.out (by repeat (first | exact Below.refl _ _ | refine below_alloc ?_ _ | refine pw_below_drewN ?_ _ | refine below_drew1 ?_ | refine below_set ?_ (Nat.le_refl _)))) hb); have n1 := Aside0.mk (Kd.C_below (Kd.C_below HR1.out (by repeat (first | exact Below.refl _ _ | refine below_alloc ?_ _ | refine pw_below_drewN ?_ _ | refine below_drew1 ?_ | refine below_set ?_ (Nat.le_refl _)))) hb); have n2 := Aside0.mk (Kd.C_below (Kd.C_below HR2.out (by repeat (first | exact Below.refl _ _ | refine below_alloc ?_ _ | refine pw_below_drewN ?_ _ | refine below_drew1 ?_ | refine below_set ?_ (Nat.le_refl _)))) hb); have bl := Aside0.mk (Box.keep (by repeat (first | exact Below.refl _ _ | refine below_alloc ?_ _ | refine pw_below_drewN ?_ _ | refine below_drew1 ?_ | refine below_set ?_ (Nat.le_refl _))) hb Bl.out); have nb := Aside0.mk (below_step (below_step HB.out (by repeat (first | exact Below.refl _ _ | refine below_alloc ?_ _ | refine pw_below_drewN ?_ _ | refine below_drew1 ?_ | refine below_set ?_ (Nat.le_refl _)))) hb); clear HB HR0 HR1 HR2 Bl; have HB := nb; have HR0 := n0; have HR1 := n1; have HR2 := n2; have Bl := bl; clear nb n0 n1 n2 bl; have k0 := Bl.out 0 (.slice A1 l1.length c1) rfl; have k1 := Bl.out 1 (.slice A2 l2.length c2) rfl; clear hb
          rw [errW_none] at he; subst he
          go_wp2_with (first | (go_at_call 106; refine stop_ ?_) | (go_at_call 44; refine stop_ ?_) | (go_at_call 107; refine stop_ ?_))
          clear k0 k1
          refine ⟨?_⟩
          refine Calls.mono (HP.out _ (Kd.C_below HR1.out (by repeat (first | exact Below.refl _ _ | refine below_alloc ?_ _ | refine pw_below_drewN ?_ _ | refine below_drew1 ?_ | refine below_set ?_ (Nat.le_refl _)))) (Kd.C_below HR0.out (by repeat (first | exact Below.refl _ _ | refine below_alloc ?_ _ | refine pw_below_drewN ?_ _ | refine below_drew1 ?_ | refine below_set ?_ (Nat.le_refl _))))) ?_
          rintro e w' ⟨v, rfl, hv, hb⟩
          have n0 := Aside0.mk (Kd.C_below (Kd.C_below HR0.out (by repeat (first | exact Below.refl _ _ | refine below_alloc ?_ _ | refine pw_below_drewN ?_ _ | refine below_drew1 ?_ | refine below_set ?_ (Nat.le_refl _)))) hb); have n1 := Aside0.mk (Kd.C_below (Kd.C_below HR1.out (by repeat (first | exact Below.refl _ _ | refine below_alloc ?_ _ | refine pw_below_drewN ?_ _ | refine below_drew1 ?_ | refine below_set ?_ (Nat.le_refl _)))) hb); have n2 := Aside0.mk (Kd.C_below (Kd.C_below HR2.out (by repeat (first | exact Below.refl _ _ | refine below_alloc ?_ _ | refine pw_below_drewN ?_ _ | refine below_drew1 ?_ | refine below_set ?_ (Nat.le_refl _)))) hb); have bl := Aside0.mk (Box.keep (by repeat (first | exact Below.refl _ _ | refine below_alloc ?_ _ | refine pw_below_drewN ?_ _ | refine below_drew1 ?_ | refine below_set ?_ (Nat.le_refl _))) hb Bl.out); have nb := Aside0.mk (below_step (below_step HB.out (by repeat (first | exact Below.refl _ _ | refine below_alloc ?_ _ | refine pw_below_drewN ?_ _ | refine below_drew1 ?_ | refine below_set ?_ (Nat.le_refl _)))) hb); clear HB HR0 HR1 HR2 Bl; have HB := nb; have HR0 := n0; have HR1 := n1; have HR2 := n2; have Bl := bl; clear nb n0 n1 n2 bl; have k0 := Bl.out 0 (.slice A1 l1.length c1) rfl; have k1 := Bl.out 1 (.slice A2 l2.length c2) rfl; clear hb
          obtain ⟨Ap, cp, ep⟩ := Kd.R_slice hv
          subst ep
          clear hv
          go_wp2_with (first | (go_at_call 106; refine stop_ ?_) | (go_at_call 44; refine stop_ ?_) | (go_at_call 107; refine stop_ ?_))
          clear k0 k1
          refine ⟨?_⟩
          refine Calls.mono (HQ.out _ (Kd.C_below HR2.out (by repeat (first | exact Below.refl _ _ | refine below_alloc ?_ _ | refine pw_below_drewN ?_ _ | refine below_drew1 ?_ | refine below_set ?_ (Nat.le_refl _)))) (Kd.C_below HR0.out (by repeat (first | exact Below.refl _ _ | refine below_alloc ?_ _ | refine pw_below_drewN ?_ _ | refine below_drew1 ?_ | refine below_set ?_ (Nat.le_refl _))))) ?_
          rintro e w' ⟨v, rfl, hv, hb⟩
          have n0 := Aside0.mk (Kd.C_below (Kd.C_below HR0.out (by repeat (first | exact Below.refl _ _ | refine below_alloc ?_ _ | refine pw_below_drewN ?_ _ | refine below_drew1 ?_ | refine below_set ?_ (Nat.le_refl _)))) hb); have n1 := Aside0.mk (Kd.C_below (Kd.C_below HR1.out (by repeat (first | exact Below.refl _ _ | refine below_alloc ?_ _ | refine pw_below_drewN ?_ _ | refine below_drew1 ?_ | refine below_set ?_ (Nat.le_refl _)))) hb); have n2 := Aside0.mk (Kd.C_below (Kd.C_below HR2.out (by repeat (first | exact Below.refl _ _ | refine below_alloc ?_ _ | refine pw_below_drewN ?_ _ | refine below_drew1 ?_ | refine below_set ?_ (Nat.le_refl _)))) hb); have bl := Aside0.mk (Box.keep (by repeat (first | exact Below.refl _ _ | refine below_alloc ?_ _ | refine pw_below_drewN ?_ _ | refine below_drew1 ?_ | refine below_set ?_ (Nat.le_refl _))) hb Bl.out); have nb := Aside0.mk (below_step (below_step HB.out (by repeat (first | exact Below.refl _ _ | refine below_alloc ?_ _ | refine pw_below_drewN ?_ _ | refine below_drew1 ?_ | refine below_set ?_ (Nat.le_refl _)))) hb); clear HB HR0 HR1 HR2 Bl; have HB := nb; have HR0 := n0; have HR1 := n1; have HR2 := n2; have Bl := bl; clear nb n0 n1 n2 bl; have k0 := Bl.out 0 (.slice A1 l1.length c1) rfl; have k1 := Bl.out 1 (.slice A2 l2.length c2) rfl; clear hb
          obtain ⟨Aq, cq, eq_⟩ := Kd.R_slice hv
          subst eq_
          clear hv
          go_wp2_with (first | (go_at_call 106; refine stop_ ?_) | (go_at_call 44; refine stop_ ?_) | (go_at_call 107; refine stop_ ?_))
          go_ret2
          exact ⟨_, rfl, Kd.R_nil _ _ _ _ _, HB.out⟩
        · rw [if_neg hq]
          obtain rfl : q = [] := List.eq_nil_of_length_eq_zero (by omega)
          clear hq
          by_cases hu : u.length > 200
          · rw [if_pos hu]
            have huz : (u.length : Int) > 200 := by omega
            clear hu
            go_enter Tryz.func46, Tryz.ntmps46
            go_wp2_with (first | (go_at_call 106; refine stop_ ?_) | (go_at_call 44; refine stop_ ?_) | (go_at_call 107; refine stop_ ?_))
            refine ⟨?_⟩
            refine Calls.mono (HRT.out _ _ (cells1b w _ A0 c0 _ _) (Kd.C_alloc (Kd.C_alloc HR0.out _) _)) ?_
            rintro e w' ⟨he, hb⟩
            have n0 := Aside0.mk (Kd.C_below (Kd.C_below HR0.out (by repeat (first | exact Below.refl _ _ | refine below_alloc ?_ _ | refine pw_below_drewN ?_ _ | refine below_drew1 ?_ | refine below_set ?_ (Nat.le_refl _)))) hb); have n1 := Aside0.mk (Kd.C_below (Kd.C_below HR1.out (by repeat (first | exact Below.refl _ _ | refine below_alloc ?_ _ | refine pw_below_drewN ?_ _ | refine below_drew1 ?_ | refine below_set ?_ (Nat.le_refl _)))) hb); have n2 := Aside0.mk (Kd.C_below (Kd.C_below HR2.out (by repeat (first | exact Below.refl _ _ | refine below_alloc ?_ _ | refine pw_below_drewN ?_ _ | refine below_drew1 ?_ | refine below_set ?_ (Nat.le_refl _)))) hb); have bl := Aside0.mk (Box.keep (by repeat (first | exact Below.refl _ _ | refine below_alloc ?_ _ | refine pw_below_drewN ?_ _ | refine below_drew1 ?_ | refine below_set ?_ (Nat.le_refl _))) hb Bl.out); have nb := Aside0.mk (below_step (below_step HB.out (by repeat (first | exact Below.refl _ _ | refine below_alloc ?_ _ | refine pw_below_drewN ?_ _ | refine below_drew1 ?_ | refine below_set ?_ (Nat.le_refl _)))) hb); clear HB HR0 HR1 HR2 Bl; have HB := nb; have HR0 := n0; have HR1 := n1; have HR2 := n2; have Bl := bl; clear nb n0 n1 n2 bl; have k0 := Bl.out 0 (.slice A1 l1.length c1) rfl; have k1 := Bl.out 1 (.slice A2 l2.length c2) rfl; clear hb
            rw [errW_none] at he; subst he
            go_wp2_with (first | (go_at_call 106; refine stop_ ?_) | (go_at_call 44; refine stop_ ?_) | (go_at_call 107; refine stop_ ?_))
            clear k0 k1
            refine ⟨?_⟩
            refine Calls.mono (HCK.out _ (Kd.C_below HR1.out (by repeat (first | exact Below.refl _ _ | refine below_alloc ?_ _ | refine pw_below_drewN ?_ _ | refine below_drew1 ?_ | refine below_set ?_ (Nat.le_refl _)))) (Kd.C_below HR2.out (by repeat (first | exact Below.refl _ _ | refine below_alloc ?_ _ | refine pw_below_drewN ?_ _ | refine below_drew1 ?_ | refine below_set ?_ (Nat.le_refl _))))) ?_
            rintro e w' ⟨he, hb⟩
            have n0 := Aside0.mk (Kd.C_below (Kd.C_below HR0.out (by repeat (first | exact Below.refl _ _ | refine below_alloc ?_ _ | refine pw_below_drewN ?_ _ | refine below_drew1 ?_ | refine below_set ?_ (Nat.le_refl _)))) hb); have n1 := Aside0.mk (Kd.C_below (Kd.C_below HR1.out (by repeat (first | exact Below.refl _ _ | refine below_alloc ?_ _ | refine pw_below_drewN ?_ _ | refine below_drew1 ?_ | refine below_set ?_ (Nat.le_refl _)))) hb); have n2 := Aside0.mk (Kd.C_below (Kd.C_below HR2.out (by repeat (first | exact Below.refl _ _ | refine below_alloc ?_ _ | refine pw_below_drewN ?_ _ | refine below_drew1 ?_ | refine below_set ?_ (Nat.le_refl _)))) hb); have bl := Aside0.mk (Box.keep (by repeat (first | exact Below.refl _ _ | refine below_alloc ?_ _ | refine pw_below_drewN ?_ _ | refine below_drew1 ?_ | refine below_set ?_ (Nat.le_refl _))) hb Bl.out); have nb := Aside0.mk (below_step (below_step HB.out (by repeat (first | exact Below.refl _ _ | refine below_alloc ?_ _ | refine pw_below_drewN ?_ _ | refine below_drew1 ?_ | refine below_set ?_ (Nat.le_refl _)))) hb); clear HB HR0 HR1 HR2 Bl; have HB := nb; have HR0 := n0; have HR1 := n1; have HR2 := n2; have Bl := bl; clear nb n0 n1 n2 bl; have k0 := Bl.out 0 (.slice A1 l1.length c1) rfl; have k1 := Bl.out 1 (.slice A2 l2.length c2) rfl; clear hb
            rw [errW_none] at he; subst he
            go_wp2_with (first | (go_at_call 106; refine stop_ ?_) | (go_at_call 44; refine stop_ ?_) | (go_at_call 107; refine stop_ ?_))
            clear k0 k1
            refine ⟨?_⟩
            refine Calls.mono (HP.out _ (Kd.C_below HR1.out (by repeat (first | exact Below.refl _ _ | refine below_alloc ?_ _ | refine pw_below_drewN ?_ _ | refine below_drew1 ?_ | refine below_set ?_ (Nat.le_refl _)))) (Kd.C_below HR0.out (by repeat (first | exact Below.refl _ _ | refine below_alloc ?_ _ | refine pw_below_drewN ?_ _ | refine below_drew1 ?_ | refine below_set ?_ (Nat.le_refl _))))) ?_
            rintro e w' ⟨v, rfl, hv, hb⟩
            have n0 := Aside0.mk (Kd.C_below (Kd.C_below HR0.out (by repeat (first | exact Below.refl _ _ | refine below_alloc ?_ _ | refine pw_below_drewN ?_ _ | refine below_drew1 ?_ | refine below_set ?_ (Nat.le_refl _)))) hb); have n1 := Aside0.mk (Kd.C_below (Kd.C_below HR1.out (by repeat (first | exact Below.refl _ _ | refine below_alloc ?_ _ | refine pw_below_drewN ?_ _ | refine below_drew1 ?_ | refine below_set ?_ (Nat.le_refl _)))) hb); have n2 := Aside0.mk (Kd.C_below (Kd.C_below HR2.out (by repeat (first | exact Below.refl _ _ | refine below_alloc ?_ _ | refine pw_below_drewN ?_ _ | refine below_drew1 ?_ | refine below_set ?_ (Nat.le_refl _)))) hb); have bl := Aside0.mk (Box.keep (by repeat (first | exact Below.refl _ _ | refine below_alloc ?_ _ | refine pw_below_drewN ?_ _ | refine below_drew1 ?_ | refine below_set ?_ (Nat.le_refl _))) hb Bl.out); have nb := Aside0.mk (below_step (below_step HB.out (by repeat (first | exact Below.refl _ _ | refine below_alloc ?_ _ | refine pw_below_drewN ?_ _ | refine below_drew1 ?_ | refine below_set ?_ (Nat.le_refl _)))) hb); clear HB HR0 HR1 HR2 Bl; have HB := nb; have HR0 := n0; have HR1 := n1; have HR2 := n2; have Bl := bl; clear nb n0 n1 n2 bl; have k0 := Bl.out 0 (.slice A1 l1.length c1) rfl; have k1 := Bl.out 1 (.slice A2 l2.length c2) rfl; clear hb
            obtain ⟨Ap, cp, ep⟩ := Kd.R_slice hv
            subst ep
            clear hv
            go_wp2_with (first | (go_at_call 106; refine stop_ ?_) | (go_at_call 44; refine stop_ ?_) | (go_at_call 107; refine stop_ ?_))
            clear k0 k1
            refine ⟨?_⟩
            refine Calls.mono (HQ.out _ (Kd.C_below HR2.out (by repeat (first | exact Below.refl _ _ | refine below_alloc ?_ _ | refine pw_below_drewN ?_ _ | refine below_drew1 ?_ | refine below_set ?_ (Nat.le_refl _)))) (Kd.C_below HR0.out (by repeat (first | exact Below.refl _ _ | refine below_alloc ?_ _ | refine pw_below_drewN ?_ _ | refine below_drew1 ?_ | refine below_set ?_ (Nat.le_refl _))))) ?_
            rintro e w' ⟨v, rfl, hv, hb⟩
            have n0 := Aside0.mk (Kd.C_below (Kd.C_below HR0.out (by repeat (first | exact Below.refl _ _ | refine below_alloc ?_ _ | refine pw_below_drewN ?_ _ | refine below_drew1 ?_ | refine below_set ?_ (Nat.le_refl _)))) hb); have n1 := Aside0.mk (Kd.C_below (Kd.C_below HR1.out (by repeat (first | exact Below.refl _ _ | refine below_alloc ?_ _ | refine pw_below_drewN ?_ _ | refine below_drew1 ?_ | refine below_set ?_ (Nat.le_refl _)))) hb); have n2 := Aside0.mk (Kd.C_below (Kd.C_below HR2.out (by repeat (first | exact Below.refl _ _ | refine below_alloc ?_ _ | refine pw_below_drewN ?_ _ | refine below_drew1 ?_ | refine below_set ?_ (Nat.le_refl _)))) hb); have bl := Aside0.mk (Box.keep (by repeat (first | exact Below.refl _ _ | refine below_alloc ?_ _ | refine pw_below_drewN ?_ _ | refine below_drew1 ?_ | refine below_set ?_ (Nat.le_refl _))) hb Bl.out); have nb := Aside0.mk (below_step (below_step HB.out (by repeat (first | exact Below.refl _ _ | refine below_alloc ?_ _ | refine pw_below_drewN ?_ _ | refine below_drew1 ?_ | refine below_set ?_ (Nat.le_refl _)))) hb); clear HB HR0 HR1 HR2 Bl; have HB := nb; have HR0 := n0; have HR1 := n1; have HR2 := n2; have Bl := bl; clear nb n0 n1 n2 bl; have k0 := Bl.out 0 (.slice A1 l1.length c1) rfl; have k1 := Bl.out 1 (.slice A2 l2.length c2) rfl; clear hb
            obtain ⟨Aq, cq, eq_⟩ := Kd.R_slice hv
            subst eq_
            clear hv
            go_wp2_with (first | (go_at_call 106; refine stop_ ?_) | (go_at_call 44; refine stop_ ?_) | (go_at_call 107; refine stop_ ?_))
            go_region_held3 (fun W => W.cell? ⟨w.heap.size, 0, none⟩ = some (.slice A1 l1.length c1) ∧ W.cell? ⟨w.heap.size, 1, none⟩ = some (.slice A2 l2.length c2)) (first | exact ⟨m0, m1⟩ | exact ⟨k0, k1⟩ | go_keep) (first | (go_at_call 107; refine (HS.out _ (Kd.C_below HR0.out (by repeat (first | exact Below.refl _ _ | refine below_alloc ?_ _ | refine pw_below_drewN ?_ _ | refine below_drew1 ?_ | refine below_set ?_ (Nat.le_refl _)))) (Kd.C_below HR2.out (by repeat (first | exact Below.refl _ _ | refine below_alloc ?_ _ | refine pw_below_drewN ?_ _ | refine below_drew1 ?_ | refine below_set ?_ (Nat.le_refl _))))).mono ?_; rintro e w5 ⟨v, rfl, hv, hb⟩; obtain ⟨As, cs, rfl, hCs, hcs⟩ := R_row hv; have HRS := Aside0.mk hCs; have HLS := Aside0.mk hcs; clear hv hCs hcs; have n0 := Aside0.mk (Kd.C_below (Kd.C_below HR0.out (by repeat (first | exact Below.refl _ _ | refine below_alloc ?_ _ | refine pw_below_drewN ?_ _ | refine below_drew1 ?_ | refine below_set ?_ (Nat.le_refl _)))) hb); have n1 := Aside0.mk (Kd.C_below (Kd.C_below HR1.out (by repeat (first | exact Below.refl _ _ | refine below_alloc ?_ _ | refine pw_below_drewN ?_ _ | refine below_drew1 ?_ | refine below_set ?_ (Nat.le_refl _)))) hb); have n2 := Aside0.mk (Kd.C_below (Kd.C_below HR2.out (by repeat (first | exact Below.refl _ _ | refine below_alloc ?_ _ | refine pw_below_drewN ?_ _ | refine below_drew1 ?_ | refine below_set ?_ (Nat.le_refl _)))) hb); have bl := Aside0.mk (Box.keep (by repeat (first | exact Below.refl _ _ | refine below_alloc ?_ _ | refine pw_below_drewN ?_ _ | refine below_drew1 ?_ | refine below_set ?_ (Nat.le_refl _))) hb Bl.out); have nb := Aside0.mk (below_step (below_step HB.out (by repeat (first | exact Below.refl _ _ | refine below_alloc ?_ _ | refine pw_below_drewN ?_ _ | refine below_drew1 ?_ | refine below_set ?_ (Nat.le_refl _)))) hb); clear HB HR0 HR1 HR2 Bl; have HB := nb; have HR0 := n0; have HR1 := n1; have HR2 := n2; have Bl := bl; clear nb n0 n1 n2 bl; have m0 := Bl.out 0 (.slice A1 l1.length c1) rfl; have m1 := Bl.out 1 (.slice A2 l2.length c2) rfl; clear hb) | (go_at_call 108; refine (HU.out _ As cs (Kd.C_below HRS.out (by repeat (first | exact Below.refl _ _ | refine below_alloc ?_ _ | refine pw_below_drewN ?_ _ | refine below_drew1 ?_ | refine below_set ?_ (Nat.le_refl _)))) HLS.out (Kd.C_below HR1.out (by repeat (first | exact Below.refl _ _ | refine below_alloc ?_ _ | refine pw_below_drewN ?_ _ | refine below_drew1 ?_ | refine below_set ?_ (Nat.le_refl _))))).mono ?_; rintro e w6 ⟨v, rfl, hv, hb⟩; obtain ⟨Au, cu, eu⟩ := Kd.R_slice hv; subst eu; have HV := Aside0.mk (Kd.R_lower hv (Nat.le_trans HB.out.size (show _ ≤ _ from Nat.le_of_eq (by first | rfl | simp)))); clear hv; have n0 := Aside0.mk (Kd.C_below (Kd.C_below HR0.out (by repeat (first | exact Below.refl _ _ | refine below_alloc ?_ _ | refine pw_below_drewN ?_ _ | refine below_drew1 ?_ | refine below_set ?_ (Nat.le_refl _)))) hb); have n1 := Aside0.mk (Kd.C_below (Kd.C_below HR1.out (by repeat (first | exact Below.refl _ _ | refine below_alloc ?_ _ | refine pw_below_drewN ?_ _ | refine below_drew1 ?_ | refine below_set ?_ (Nat.le_refl _)))) hb); have n2 := Aside0.mk (Kd.C_below (Kd.C_below HR2.out (by repeat (first | exact Below.refl _ _ | refine below_alloc ?_ _ | refine pw_below_drewN ?_ _ | refine below_drew1 ?_ | refine below_set ?_ (Nat.le_refl _)))) hb); have bl := Aside0.mk (Box.keep (by repeat (first | exact Below.refl _ _ | refine below_alloc ?_ _ | refine pw_below_drewN ?_ _ | refine below_drew1 ?_ | refine below_set ?_ (Nat.le_refl _))) hb Bl.out); have nb := Aside0.mk (below_step (below_step HB.out (by repeat (first | exact Below.refl _ _ | refine below_alloc ?_ _ | refine pw_below_drewN ?_ _ | refine below_drew1 ?_ | refine below_set ?_ (Nat.le_refl _)))) hb); clear HB HR0 HR1 HR2 Bl; have HB := nb; have HR0 := n0; have HR1 := n1; have HR2 := n2; have Bl := bl; clear nb n0 n1 n2 bl; have m0 := Bl.out 0 (.slice A1 l1.length c1) rfl; have m1 := Bl.out 1 (.slice A2 l2.length c2) rfl; clear hb))
            go_wp2
            go_ret2
            exact ⟨_, rfl, Kd.R_nil _ _ _ _ _, HB.out⟩
          · rw [if_neg hu]
            have huz : ¬ (u.length : Int) > 200 := by omega
            clear hu
            go_enter Tryz.func46, Tryz.ntmps46
            go_wp2_with (first | (go_at_call 106; refine stop_ ?_) | (go_at_call 44; refine stop_ ?_) | (go_at_call 107; refine stop_ ?_))
            refine ⟨?_⟩
            refine Calls.mono (HRT.out _ _ (cells1b w _ A0 c0 _ _) (Kd.C_alloc (Kd.C_alloc HR0.out _) _)) ?_
            rintro e w' ⟨he, hb⟩
            have n0 := Aside0.mk (Kd.C_below (Kd.C_below HR0.out (by repeat (first | exact Below.refl _ _ | refine below_alloc ?_ _ | refine pw_below_drewN ?_ _ | refine below_drew1 ?_ | refine below_set ?_ (Nat.le_refl _)))) hb); have n1 := Aside0.mk (Kd.C_below (Kd.C_below HR1.out (by repeat (first | exact Below.refl _ _ | refine below_alloc ?_ _ | refine pw_below_drewN ?_ _ | refine below_drew1 ?_ | refine below_set ?_ (Nat.le_refl _)))) hb); have n2 := Aside0.mk (Kd.C_below (Kd.C_below HR2.out (by repeat (first | exact Below.refl _ _ | refine below_alloc ?_ _ | refine pw_below_drewN ?_ _ | refine below_drew1 ?_ | refine below_set ?_ (Nat.le_refl _)))) hb); have bl := Aside0.mk (Box.keep (by repeat (first | exact Below.refl _ _ | refine below_alloc ?_ _ | refine pw_below_drewN ?_ _ | refine below_drew1 ?_ | refine below_set ?_ (Nat.le_refl _))) hb Bl.out); have nb := Aside0.mk (below_step (below_step HB.out (by repeat (first | exact Below.refl _ _ | refine below_alloc ?_ _ | refine pw_below_drewN ?_ _ | refine below_drew1 ?_ | refine below_set ?_ (Nat.le_refl _)))) hb); clear HB HR0 HR1 HR2 Bl; have HB := nb; have HR0 := n0; have HR1 := n1; have HR2 := n2; have Bl := bl; clear nb n0 n1 n2 bl; have k0 := Bl.out 0 (.slice A1 l1.length c1) rfl; have k1 := Bl.out 1 (.slice A2 l2.length c2) rfl; clear hb
            rw [errW_none] at he; subst he
            go_wp2_with (first | (go_at_call 106; refine stop_ ?_) | (go_at_call 44; refine stop_ ?_) | (go_at_call 107; refine stop_ ?_))
            clear k0 k1
            refine ⟨?_⟩
            refine Calls.mono (HCK.out _ (Kd.C_below HR1.out (by repeat (first | exact Below.refl _ _ | refine below_alloc ?_ _ | refine pw_below_drewN ?_ _ | refine below_drew1 ?_ | refine below_set ?_ (Nat.le_refl _)))) (Kd.C_below HR2.out (by repeat (first | exact Below.refl _ _ | refine below_alloc ?_ _ | refine pw_below_drewN ?_ _ | refine below_drew1 ?_ | refine below_set ?_ (Nat.le_refl _))))) ?_
            rintro e w' ⟨he, hb⟩
            have n0 := Aside0.mk (Kd.C_below (Kd.C_below HR0.out (by repeat (first | exact Below.refl _ _ | refine below_alloc ?_ _ | refine pw_below_drewN ?_ _ | refine below_drew1 ?_ | refine below_set ?_ (Nat.le_refl _)))) hb); have n1 := Aside0.mk (Kd.C_below (Kd.C_below HR1.out (by repeat (first | exact Below.refl _ _ | refine below_alloc ?_ _ | refine pw_below_drewN ?_ _ | refine below_drew1 ?_ | refine below_set ?_ (Nat.le_refl _)))) hb); have n2 := Aside0.mk (Kd.C_below (Kd.C_below HR2.out (by repeat (first | exact Below.refl _ _ | refine below_alloc ?_ _ | refine pw_below_drewN ?_ _ | refine below_drew1 ?_ | refine below_set ?_ (Nat.le_refl _)))) hb); have bl := Aside0.mk (Box.keep (by repeat (first | exact Below.refl _ _ | refine below_alloc ?_ _ | refine pw_below_drewN ?_ _ | refine below_drew1 ?_ | refine below_set ?_ (Nat.le_refl _))) hb Bl.out); have nb := Aside0.mk (below_step (below_step HB.out (by repeat (first | exact Below.refl _ _ | refine below_alloc ?_ _ | refine pw_below_drewN ?_ _ | refine below_drew1 ?_ | refine below_set ?_ (Nat.le_refl _)))) hb); clear HB HR0 HR1 HR2 Bl; have HB := nb; have HR0 := n0; have HR1 := n1; have HR2 := n2; have Bl := bl; clear nb n0 n1 n2 bl; have k0 := Bl.out 0 (.slice A1 l1.length c1) rfl; have k1 := Bl.out 1 (.slice A2 l2.length c2) rfl; clear hb
            rw [errW_none] at he; subst he
            go_wp2_with (first | (go_at_call 106; refine stop_ ?_) | (go_at_call 44; refine stop_ ?_) | (go_at_call 107; refine stop_ ?_))
            clear k0 k1
            refine ⟨?_⟩
            refine Calls.mono (HP.out _ (Kd.C_below HR1.out (by repeat (first | exact Below.refl _ _ | refine below_alloc ?_ _ | refine pw_below_drewN ?_ _ | refine below_drew1 ?_ | refine below_set ?_ (Nat.le_refl _)))) (Kd.C_below HR0.out (by repeat (first | exact Below.refl _ _ | refine below_alloc ?_ _ | refine pw_below_drewN ?_ _ | refine below_drew1 ?_ | refine below_set ?_ (Nat.le_refl _))))) ?_
            rintro e w' ⟨v, rfl, hv, hb⟩
            have n0 := Aside0.mk (Kd.C_below (Kd.C_below HR0.out (by repeat (first | exact Below.refl _ _ | refine below_alloc ?_ _ | refine pw_below_drewN ?_ _ | refine below_drew1 ?_ | refine below_set ?_ (Nat.le_refl _)))) hb); have n1 := Aside0.mk (Kd.C_below (Kd.C_below HR1.out (by repeat (first | exact Below.refl _ _ | refine below_alloc ?_ _ | refine pw_below_drewN ?_ _ | refine below_drew1 ?_ | refine below_set ?_ (Nat.le_refl _)))) hb); have n2 := Aside0.mk (Kd.C_below (Kd.C_below HR2.out (by repeat (first | exact Below.refl _ _ | refine below_alloc ?_ _ | refine pw_below_drewN ?_ _ | refine below_drew1 ?_ | refine below_set ?_ (Nat.le_refl _)))) hb); have bl := Aside0.mk (Box.keep (by repeat (first | exact Below.refl _ _ | refine below_alloc ?_ _ | refine pw_below_drewN ?_ _ | refine below_drew1 ?_ | refine below_set ?_ (Nat.le_refl _))) hb Bl.out); have nb := Aside0.mk (below_step (below_step HB.out (by repeat (first | exact Below.refl _ _ | refine below_alloc ?_ _ | refine pw_below_drewN ?_ _ | refine below_drew1 ?_ | refine below_set ?_ (Nat.le_refl _)))) hb); clear HB HR0 HR1 HR2 Bl; have HB := nb; have HR0 := n0; have HR1 := n1; have HR2 := n2; have Bl := bl; clear nb n0 n1 n2 bl; have k0 := Bl.out 0 (.slice A1 l1.length c1) rfl; have k1 := Bl.out 1 (.slice A2 l2.length c2) rfl; clear hb
            obtain ⟨Ap, cp, ep⟩ := Kd.R_slice hv
            subst ep
            clear hv
            go_wp2_with (first | (go_at_call 106; refine stop_ ?_) | (go_at_call 44; refine stop_ ?_) | (go_at_call 107; refine stop_ ?_))
            clear k0 k1
            refine ⟨?_⟩
            refine Calls.mono (HQ.out _ (Kd.C_below HR2.out (by repeat (first | exact Below.refl _ _ | refine below_alloc ?_ _ | refine pw_below_drewN ?_ _ | refine below_drew1 ?_ | refine below_set ?_ (Nat.le_refl _)))) (Kd.C_below HR0.out (by repeat (first | exact Below.refl _ _ | refine below_alloc ?_ _ | refine pw_below_drewN ?_ _ | refine below_drew1 ?_ | refine below_set ?_ (Nat.le_refl _))))) ?_
            rintro e w' ⟨v, rfl, hv, hb⟩
            have n0 := Aside0.mk (Kd.C_below (Kd.C_below HR0.out (by repeat (first | exact Below.refl _ _ | refine below_alloc ?_ _ | refine pw_below_drewN ?_ _ | refine below_drew1 ?_ | refine below_set ?_ (Nat.le_refl _)))) hb); have n1 := Aside0.mk (Kd.C_below (Kd.C_below HR1.out (by repeat (first | exact Below.refl _ _ | refine below_alloc ?_ _ | refine pw_below_drewN ?_ _ | refine below_drew1 ?_ | refine below_set ?_ (Nat.le_refl _)))) hb); have n2 := Aside0.mk (Kd.C_below (Kd.C_below HR2.out (by repeat (first | exact Below.refl _ _ | refine below_alloc ?_ _ | refine pw_below_drewN ?_ _ | refine below_drew1 ?_ | refine below_set ?_ (Nat.le_refl _)))) hb); have bl := Aside0.mk (Box.keep (by repeat (first | exact Below.refl _ _ | refine below_alloc ?_ _ | refine pw_below_drewN ?_ _ | refine below_drew1 ?_ | refine below_set ?_ (Nat.le_refl _))) hb Bl.out); have nb := Aside0.mk (below_step (below_step HB.out (by repeat (first | exact Below.refl _ _ | refine below_alloc ?_ _ | refine pw_below_drewN ?_ _ | refine below_drew1 ?_ | refine below_set ?_ (Nat.le_refl _)))) hb); clear HB HR0 HR1 HR2 Bl; have HB := nb; have HR0 := n0; have HR1 := n1; have HR2 := n2; have Bl := bl; clear nb n0 n1 n2 bl; have k0 := Bl.out 0 (.slice A1 l1.length c1) rfl; have k1 := Bl.out 1 (.slice A2 l2.length c2) rfl; clear hb
            obtain ⟨Aq, cq, eq_⟩ := Kd.R_slice hv
            subst eq_
            clear hv
            go_wp2_with (first | (go_at_call 106; refine stop_ ?_) | (go_at_call 44; refine stop_ ?_) | (go_at_call 107; refine stop_ ?_))
            go_region_held3 (fun W => W.cell? ⟨w.heap.size, 0, none⟩ = some (.slice A1 l1.length c1) ∧ W.cell? ⟨w.heap.size, 1, none⟩ = some (.slice A2 l2.length c2)) (first | exact ⟨m0, m1⟩ | exact ⟨k0, k1⟩ | go_keep) (first | (go_at_call 107; refine (HS.out _ (Kd.C_below HR0.out (by repeat (first | exact Below.refl _ _ | refine below_alloc ?_ _ | refine pw_below_drewN ?_ _ | refine below_drew1 ?_ | refine below_set ?_ (Nat.le_refl _)))) (Kd.C_below HR2.out (by repeat (first | exact Below.refl _ _ | refine below_alloc ?_ _ | refine pw_below_drewN ?_ _ | refine below_drew1 ?_ | refine below_set ?_ (Nat.le_refl _))))).mono ?_; rintro e w5 ⟨v, rfl, hv, hb⟩; obtain ⟨As, cs, rfl, hCs, hcs⟩ := R_row hv; have HRS := Aside0.mk hCs; have HLS := Aside0.mk hcs; clear hv hCs hcs; have n0 := Aside0.mk (Kd.C_below (Kd.C_below HR0.out (by repeat (first | exact Below.refl _ _ | refine below_alloc ?_ _ | refine pw_below_drewN ?_ _ | refine below_drew1 ?_ | refine below_set ?_ (Nat.le_refl _)))) hb); have n1 := Aside0.mk (Kd.C_below (Kd.C_below HR1.out (by repeat (first | exact Below.refl _ _ | refine below_alloc ?_ _ | refine pw_below_drewN ?_ _ | refine below_drew1 ?_ | refine below_set ?_ (Nat.le_refl _)))) hb); have n2 := Aside0.mk (Kd.C_below (Kd.C_below HR2.out (by repeat (first | exact Below.refl _ _ | refine below_alloc ?_ _ | refine pw_below_drewN ?_ _ | refine below_drew1 ?_ | refine below_set ?_ (Nat.le_refl _)))) hb); have bl := Aside0.mk (Box.keep (by repeat (first | exact Below.refl _ _ | refine below_alloc ?_ _ | refine pw_below_drewN ?_ _ | refine below_drew1 ?_ | refine below_set ?_ (Nat.le_refl _))) hb Bl.out); have nb := Aside0.mk (below_step (below_step HB.out (by repeat (first | exact Below.refl _ _ | refine below_alloc ?_ _ | refine pw_below_drewN ?_ _ | refine below_drew1 ?_ | refine below_set ?_ (Nat.le_refl _)))) hb); clear HB HR0 HR1 HR2 Bl; have HB := nb; have HR0 := n0; have HR1 := n1; have HR2 := n2; have Bl := bl; clear nb n0 n1 n2 bl; have m0 := Bl.out 0 (.slice A1 l1.length c1) rfl; have m1 := Bl.out 1 (.slice A2 l2.length c2) rfl; clear hb) | (go_at_call 108; refine (HU.out _ As cs (Kd.C_below HRS.out (by repeat (first | exact Below.refl _ _ | refine below_alloc ?_ _ | refine pw_below_drewN ?_ _ | refine below_drew1 ?_ | refine below_set ?_ (Nat.le_refl _)))) HLS.out (Kd.C_below HR1.out (by repeat (first | exact Below.refl _ _ | refine below_alloc ?_ _ | refine pw_below_drewN ?_ _ | refine below_drew1 ?_ | refine below_set ?_ (Nat.le_refl _))))).mono ?_; rintro e w6 ⟨v, rfl, hv, hb⟩; obtain ⟨Au, cu, eu⟩ := Kd.R_slice hv; subst eu; have HV := Aside0.mk (Kd.R_lower hv (Nat.le_trans HB.out.size (show _ ≤ _ from Nat.le_of_eq (by first | rfl | simp)))); clear hv; have n0 := Aside0.mk (Kd.C_below (Kd.C_below HR0.out (by repeat (first | exact Below.refl _ _ | refine below_alloc ?_ _ | refine pw_below_drewN ?_ _ | refine below_drew1 ?_ | refine below_set ?_ (Nat.le_refl _)))) hb); have n1 := Aside0.mk (Kd.C_below (Kd.C_below HR1.out (by repeat (first | exact Below.refl _ _ | refine below_alloc ?_ _ | refine pw_below_drewN ?_ _ | refine below_drew1 ?_ | refine below_set ?_ (Nat.le_refl _)))) hb); have n2 := Aside0.mk (Kd.C_below (Kd.C_below HR2.out (by repeat (first | exact Below.refl _ _ | refine below_alloc ?_ _ | refine pw_below_drewN ?_ _ | refine below_drew1 ?_ | refine below_set ?_ (Nat.le_refl _)))) hb); have bl := Aside0.mk (Box.keep (by repeat (first | exact Below.refl _ _ | refine below_alloc ?_ _ | refine pw_below_drewN ?_ _ | refine below_drew1 ?_ | refine below_set ?_ (Nat.le_refl _))) hb Bl.out); have nb := Aside0.mk (below_step (below_step HB.out (by repeat (first | exact Below.refl _ _ | refine below_alloc ?_ _ | refine pw_below_drewN ?_ _ | refine below_drew1 ?_ | refine below_set ?_ (Nat.le_refl _)))) hb); clear HB HR0 HR1 HR2 Bl; have HB := nb; have HR0 := n0; have HR1 := n1; have HR2 := n2; have Bl := bl; clear nb n0 n1 n2 bl; have m0 := Bl.out 0 (.slice A1 l1.length c1) rfl; have m1 := Bl.out 1 (.slice A2 l2.length c2) rfl; clear hb))
            go_wp2
            go_ret2
            exact ⟨_, rfl, HV.out, HB.out⟩
end Go.Proofs.YtdjamphmndbmjaaGreatDoor.M

/- Package layer: Turn (printed by wip/gen_lay3.py). -/
namespace Go.Proofs.YtdjamphmndbmjaaGreatDoor.M
open Go.RowKit Go.Proofs.YtdjamphmndbmjaaGreatDoorW.PrintWords Go.Proofs.YtdjamphmndbmjaaGreatDoorW.PrintLast Go.Proofs.YtdjamphmndbmjaaGreatDoorW.PrintMore
set_option linter.unusedVariables false
set_option linter.unusedSimpArgs false

set_option maxHeartbeats 4000000 in
set_option maxRecDepth 100000 in
theorem turn_calls (A1 : Option Addr) (c1 : Nat) (l1 : List S25) (A2 : Option Addr) (c2 : Nat) (l2 : List S25) (w : World) (hr1 : Kd.C k25 w A1 l1.length l1) (hc1 : l1.length ≤ c1) (hr2 : Kd.C k25 w A2 l2.length l2) (hc2 : l2.length ≤ c2) :
    Calls Tryz.prog 50 #[.agg #[.slice A1 l1.length c1, .slice A2 l2.length c2]] w fun e w' => ∃ v, e = .returned (.tuple #[v, errW (layErr l1 l2)]) ∧ LRow w' w.heap.size v (if layErr l1 l2 = none then l2 else []) (if layErr l1 l2 = none then l1 else []) ∧ Below w.heap.size w w' := by
  have HR1 := Aside0.mk hr1; have HR2 := Aside0.mk hr2; have HB := Aside0.mk (Below.refl w.heap.size w)
  have Bl : Aside0 (Box (w.alloc (.cells #[.slice A1 l1.length c1, .slice A2 l2.length c2] 48)) w.heap.size #[.slice A1 l1.length c1, .slice A2 l2.length c2]) := ⟨Box.new _ _ _⟩
  have HK : Aside0 (((w.alloc (.cells #[.slice A1 l1.length c1, .slice A2 l2.length c2] 48)).alloc (.cells #[.slice none 0 0, .slice none 0 0] 48 (0, 0))).heap[w.heap.size + 1]? = some (.cells #[.slice none 0 0, .slice none 0 0] 48 (0, 0))) := ⟨by have h := blk_new (w.alloc (.cells #[.slice A1 l1.length c1, .slice A2 l2.length c2] 48)) (.cells #[.slice none 0 0, .slice none 0 0] 48 (0, 0)); rw [alloc_size1] at h; exact h⟩
  have hchk := fun W hC1 hC2 => lcheck_calls A1 c1 l1 A2 c2 l2 W hC1 hc1 hC2 hc2
  cases he : layErr l1 l2 with
  | some n =>
    rw [if_neg (by simp), if_neg (by simp)]
    rw [he] at hchk
    have HCK := Aside0.mk hchk
    clear hchk he hr1 hr2
    go_enter Tryz.func50, Tryz.ntmps50
    go_wp2_with (first | (go_at_call 44; refine stop_ ?_) | (go_at_call 79; refine stop_ ?_))
    refine ⟨?_⟩
    refine Calls.mono (HCK.out _ (Kd.C_below HR1.out (by repeat (first | exact Below.refl _ _ | refine below_alloc ?_ _ | refine pw_below_drewN ?_ _ | refine below_drew1 ?_ | refine below_set ?_ (Nat.le_refl _)))) (Kd.C_below HR2.out (by repeat (first | exact Below.refl _ _ | refine below_alloc ?_ _ | refine pw_below_drewN ?_ _ | refine below_drew1 ?_ | refine below_set ?_ (Nat.le_refl _))))) ?_
    rintro e w' ⟨he, hb⟩
    have n1 := Aside0.mk (Kd.C_below (Kd.C_below HR1.out (by repeat (first | exact Below.refl _ _ | refine below_alloc ?_ _ | refine pw_below_drewN ?_ _ | refine below_drew1 ?_ | refine below_set ?_ (Nat.le_refl _)))) hb); have n2 := Aside0.mk (Kd.C_below (Kd.C_below HR2.out (by repeat (first | exact Below.refl _ _ | refine below_alloc ?_ _ | refine pw_below_drewN ?_ _ | refine below_drew1 ?_ | refine below_set ?_ (Nat.le_refl _)))) hb); have bl := Aside0.mk (Box.keep (by repeat (first | exact Below.refl _ _ | refine below_alloc ?_ _ | refine pw_below_drewN ?_ _ | refine below_drew1 ?_ | refine below_set ?_ (Nat.le_refl _))) hb Bl.out); have nb := Aside0.mk (below_step (below_step HB.out (by repeat (first | exact Below.refl _ _ | refine below_alloc ?_ _ | refine pw_below_drewN ?_ _ | refine below_drew1 ?_ | refine below_set ?_ (Nat.le_refl _)))) hb); clear HB HR1 HR2 Bl; have HB := nb; have HR1 := n1; have HR2 := n2; have Bl := bl; clear nb n1 n2 bl; have nk := Aside0.mk (blk_below (by repeat (first | exact HK.out | refine blk_drewN ?_ _ | refine blk_drew ?_ | refine blk_alloc ?_ _)) hb); clear HK; have HK := nk; clear nk; clear hb
    rw [errW_some] at he; subst he
    have r0 : w'.cell? ⟨w.heap.size + 1, 0, none⟩ = some (.slice none 0 0) := (blk_cell HK.out 0).trans rfl; have r1 : w'.cell? ⟨w.heap.size + 1, 1, none⟩ = some (.slice none 0 0) := (blk_cell HK.out 1).trans rfl; have f0 : w'.frozen? ⟨w.heap.size + 1, 0, none⟩ = false := blk_frozen HK.out 0; have f1 : w'.frozen? ⟨w.heap.size + 1, 1, none⟩ = false := blk_frozen HK.out 1
    go_wp2_with (first | (go_at_call 44; refine stop_ ?_) | (go_at_call 79; refine stop_ ?_))
    clear r0 r1 f0 f1
    refine bodyPost_ret (results_ct rfl _ _ (w.heap.size + 1) 48 #[.slice none 0 0, .slice none 0 0] (0, 0) _ rfl (blk_put (cs := #[.slice none 0 0, .slice none 0 0]) (blk_put (cs := #[.slice none 0 0, .slice none 0 0]) (by repeat (first | exact HK.out | refine blk_drewN ?_ _ | refine blk_drew ?_ | refine blk_alloc ?_ _)) 0 _ rfl) 1 _ rfl) Tryz.underlying48 rfl (by kernel_rfl)) rfl ?_
    exact ⟨_, rfl, ⟨_, _, rfl, Kd.R_nil _ _ _ _ _, Kd.R_nil _ _ _ _ _⟩, below_set (below_set HB.out (Nat.le_succ _)) (Nat.le_succ _)⟩
  | none =>
    rw [if_pos rfl, if_pos rfl]
    obtain ⟨hs1, hs2, _⟩ := lay_none he
    rw [he] at hchk
    have HCK := Aside0.mk hchk
    have hcl1 := fun W (hC : Kd.C k25 W A1 l1.length l1) => clone_T.calls A1 c1 l1 l1 W hC hc1 (by unfold clone_T.f; rw [if_pos (by have := sortedR_len hs1; omega)])
    have hcl2 := fun W (hC : Kd.C k25 W A2 l2.length l2) => clone_T.calls A2 c2 l2 l2 W hC hc2 (by unfold clone_T.f; rw [if_pos (by have := sortedR_len hs2; omega)])
    have HCL1 := Aside0.mk hcl1; have HCL2 := Aside0.mk hcl2
    clear hchk he hr1 hr2 hs1 hs2 hcl1 hcl2
    go_enter Tryz.func50, Tryz.ntmps50
    go_wp2_with (first | (go_at_call 44; refine stop_ ?_) | (go_at_call 79; refine stop_ ?_))
    refine ⟨?_⟩
    refine Calls.mono (HCK.out _ (Kd.C_below HR1.out (by repeat (first | exact Below.refl _ _ | refine below_alloc ?_ _ | refine pw_below_drewN ?_ _ | refine below_drew1 ?_ | refine below_set ?_ (Nat.le_refl _)))) (Kd.C_below HR2.out (by repeat (first | exact Below.refl _ _ | refine below_alloc ?_ _ | refine pw_below_drewN ?_ _ | refine below_drew1 ?_ | refine below_set ?_ (Nat.le_refl _))))) ?_
    rintro e w' ⟨he, hb⟩
    have n1 := Aside0.mk (Kd.C_below (Kd.C_below HR1.out (by repeat (first | exact Below.refl _ _ | refine below_alloc ?_ _ | refine pw_below_drewN ?_ _ | refine below_drew1 ?_ | refine below_set ?_ (Nat.le_refl _)))) hb); have n2 := Aside0.mk (Kd.C_below (Kd.C_below HR2.out (by repeat (first | exact Below.refl _ _ | refine below_alloc ?_ _ | refine pw_below_drewN ?_ _ | refine below_drew1 ?_ | refine below_set ?_ (Nat.le_refl _)))) hb); have bl := Aside0.mk (Box.keep (by repeat (first | exact Below.refl _ _ | refine below_alloc ?_ _ | refine pw_below_drewN ?_ _ | refine below_drew1 ?_ | refine below_set ?_ (Nat.le_refl _))) hb Bl.out); have nb := Aside0.mk (below_step (below_step HB.out (by repeat (first | exact Below.refl _ _ | refine below_alloc ?_ _ | refine pw_below_drewN ?_ _ | refine below_drew1 ?_ | refine below_set ?_ (Nat.le_refl _)))) hb); clear HB HR1 HR2 Bl; have HB := nb; have HR1 := n1; have HR2 := n2; have Bl := bl; clear nb n1 n2 bl; have nk := Aside0.mk (blk_below (by repeat (first | exact HK.out | refine blk_drewN ?_ _ | refine blk_drew ?_ | refine blk_alloc ?_ _)) hb); clear HK; have HK := nk; clear nk; clear hb
    rw [errW_none] at he; subst he
    have k0 := Bl.out 0 (.slice A1 l1.length c1) rfl; have k1 := Bl.out 1 (.slice A2 l2.length c2) rfl
    have r0 : w'.cell? ⟨w.heap.size + 1, 0, none⟩ = some (.slice none 0 0) := (blk_cell HK.out 0).trans rfl; have r1 : w'.cell? ⟨w.heap.size + 1, 1, none⟩ = some (.slice none 0 0) := (blk_cell HK.out 1).trans rfl; have f0 : w'.frozen? ⟨w.heap.size + 1, 0, none⟩ = false := blk_frozen HK.out 0; have f1 : w'.frozen? ⟨w.heap.size + 1, 1, none⟩ = false := blk_frozen HK.out 1
    go_wp2_with (first | (go_at_call 44; refine stop_ ?_) | (go_at_call 79; refine stop_ ?_))
    go_region_held3 (fun W => W.cell? ⟨w.heap.size, 0, none⟩ = some (.slice A1 l1.length c1) ∧ W.cell? ⟨w.heap.size, 1, none⟩ = some (.slice A2 l2.length c2)) (first | exact ⟨m0, m1⟩ | exact ⟨k0, k1⟩ | go_keep) (first | (go_at_call 79; have _t := tok1; refine (HCL1.out _ (Kd.C_below HR1.out (by repeat (first | exact Below.refl _ _ | refine below_alloc ?_ _ | refine pw_below_drewN ?_ _ | refine below_drew1 ?_ | refine below_set ?_ (Nat.le_refl _))))).mono ?_; rintro e w' ⟨v, rfl, hv, hb⟩; obtain ⟨Av, cv, ev⟩ := Kd.R_slice hv; subst ev; have HV := Aside0.mk (Kd.R_lower hv (Nat.le_trans HB.out.size (show _ ≤ _ from Nat.le_of_eq (by first | rfl | simp)))); have HU2 := Aside0.mk (Kd.R_below (by repeat (first | exact HU.out | refine Kd.R_drewN ?_ _ | refine Kd.R_drew ?_ | refine Kd.R_alloc ?_ _)) hb); clear hv HU; have HU := HU2; clear HU2; have n1 := Aside0.mk (Kd.C_below (Kd.C_below HR1.out (by repeat (first | exact Below.refl _ _ | refine below_alloc ?_ _ | refine pw_below_drewN ?_ _ | refine below_drew1 ?_ | refine below_set ?_ (Nat.le_refl _)))) hb); have n2 := Aside0.mk (Kd.C_below (Kd.C_below HR2.out (by repeat (first | exact Below.refl _ _ | refine below_alloc ?_ _ | refine pw_below_drewN ?_ _ | refine below_drew1 ?_ | refine below_set ?_ (Nat.le_refl _)))) hb); have bl := Aside0.mk (Box.keep (by repeat (first | exact Below.refl _ _ | refine below_alloc ?_ _ | refine pw_below_drewN ?_ _ | refine below_drew1 ?_ | refine below_set ?_ (Nat.le_refl _))) hb Bl.out); have nb := Aside0.mk (below_step (below_step HB.out (by repeat (first | exact Below.refl _ _ | refine below_alloc ?_ _ | refine pw_below_drewN ?_ _ | refine below_drew1 ?_ | refine below_set ?_ (Nat.le_refl _)))) hb); clear HB HR1 HR2 Bl; have HB := nb; have HR1 := n1; have HR2 := n2; have Bl := bl; clear nb n1 n2 bl; have nk := Aside0.mk (blk_below (by repeat (first | exact HK.out | refine blk_drewN ?_ _ | refine blk_drew ?_ | refine blk_alloc ?_ _)) hb); clear HK; have HK := nk; clear nk; have m0 := Bl.out 0 (.slice A1 l1.length c1) rfl; have m1 := Bl.out 1 (.slice A2 l2.length c2) rfl; have r0 : w'.cell? ⟨w.heap.size + 1, 0, none⟩ = some (.slice none 0 0) := (blk_cell HK.out 0).trans rfl; have r1 : w'.cell? ⟨w.heap.size + 1, 1, none⟩ = some (.slice none 0 0) := (blk_cell HK.out 1).trans rfl; have f0 : w'.frozen? ⟨w.heap.size + 1, 0, none⟩ = false := blk_frozen HK.out 0; have f1 : w'.frozen? ⟨w.heap.size + 1, 1, none⟩ = false := blk_frozen HK.out 1; clear hb) | (go_at_call 79; refine (HCL2.out _ (Kd.C_below HR2.out (by repeat (first | exact Below.refl _ _ | refine below_alloc ?_ _ | refine pw_below_drewN ?_ _ | refine below_drew1 ?_ | refine below_set ?_ (Nat.le_refl _))))).mono ?_; rintro e w' ⟨v, rfl, hv, hb⟩; obtain ⟨Au, cu, eu⟩ := Kd.R_slice hv; subst eu; have HU := Aside0.mk (Kd.R_lower hv (Nat.le_trans HB.out.size (show _ ≤ _ from Nat.le_of_eq (by first | rfl | simp)))); clear hv; have tok1 : True := trivial; have n1 := Aside0.mk (Kd.C_below (Kd.C_below HR1.out (by repeat (first | exact Below.refl _ _ | refine below_alloc ?_ _ | refine pw_below_drewN ?_ _ | refine below_drew1 ?_ | refine below_set ?_ (Nat.le_refl _)))) hb); have n2 := Aside0.mk (Kd.C_below (Kd.C_below HR2.out (by repeat (first | exact Below.refl _ _ | refine below_alloc ?_ _ | refine pw_below_drewN ?_ _ | refine below_drew1 ?_ | refine below_set ?_ (Nat.le_refl _)))) hb); have bl := Aside0.mk (Box.keep (by repeat (first | exact Below.refl _ _ | refine below_alloc ?_ _ | refine pw_below_drewN ?_ _ | refine below_drew1 ?_ | refine below_set ?_ (Nat.le_refl _))) hb Bl.out); have nb := Aside0.mk (below_step (below_step HB.out (by repeat (first | exact Below.refl _ _ | refine below_alloc ?_ _ | refine pw_below_drewN ?_ _ | refine below_drew1 ?_ | refine below_set ?_ (Nat.le_refl _)))) hb); clear HB HR1 HR2 Bl; have HB := nb; have HR1 := n1; have HR2 := n2; have Bl := bl; clear nb n1 n2 bl; have nk := Aside0.mk (blk_below (by repeat (first | exact HK.out | refine blk_drewN ?_ _ | refine blk_drew ?_ | refine blk_alloc ?_ _)) hb); clear HK; have HK := nk; clear nk; have m0 := Bl.out 0 (.slice A1 l1.length c1) rfl; have m1 := Bl.out 1 (.slice A2 l2.length c2) rfl; have r0 : w'.cell? ⟨w.heap.size + 1, 0, none⟩ = some (.slice none 0 0) := (blk_cell HK.out 0).trans rfl; have r1 : w'.cell? ⟨w.heap.size + 1, 1, none⟩ = some (.slice none 0 0) := (blk_cell HK.out 1).trans rfl; have f0 : w'.frozen? ⟨w.heap.size + 1, 0, none⟩ = false := blk_frozen HK.out 0; have f1 : w'.frozen? ⟨w.heap.size + 1, 1, none⟩ = false := blk_frozen HK.out 1; clear hb))
    all_goals
      go_wp2
      clear r0 r1 f0 f1
      refine bodyPost_ret (results_ct rfl _ _ (w.heap.size + 1) 48 #[.slice Au l2.length cu, .slice Av l1.length cv] (0, 0) _ rfl (blk_put (cs := #[.slice Au l2.length cu, .slice none 0 0]) (blk_put (cs := #[.slice none 0 0, .slice none 0 0]) (by repeat (first | exact HK.out | refine blk_drewN ?_ _ | refine blk_drew ?_ | refine blk_alloc ?_ _)) 0 _ rfl) 1 _ rfl) Tryz.underlying48 rfl (by kernel_rfl)) rfl ?_
      exact ⟨_, rfl, ⟨_, _, rfl, Kd.R_set (Kd.R_set (by repeat (first | exact HU.out | refine Kd.R_drewN ?_ _ | refine Kd.R_drew ?_ | refine Kd.R_alloc ?_ _)) HK.out (by decide) 0 _) (blk_put HK.out 0 _ rfl) (by decide) 1 _, Kd.R_set (Kd.R_set (by repeat (first | exact HV.out | refine Kd.R_drewN ?_ _ | refine Kd.R_drew ?_ | refine Kd.R_alloc ?_ _)) HK.out (by decide) 0 _) (blk_put HK.out 0 _ rfl) (by decide) 1 _⟩, below_set (below_set HB.out (Nat.le_succ _)) (Nat.le_succ _)⟩
end Go.Proofs.YtdjamphmndbmjaaGreatDoor.M
