/- Sets in plain words: what strict lists that have the same are, what the union and the parts have. No program in sight. -/
import Derived.Test.YtdjamphmndbmjaaXset2
namespace Go.Proofs.Ytdjamphmndbmjaa.M
open Go.RowKit Go.Proofs.YtdjamphmndbmjaaW.PrintWords Go.Proofs.YtdjamphmndbmjaaW.PrintLast Go.Proofs.YtdjamphmndbmjaaW.PrintMore
set_option linter.unusedVariables false
set_option linter.unusedSimpArgs false

open Go.Lib
def Strict (l : List S41) : Prop := l.Pairwise fun a b => cmpR a b < 0
theorem cmp_irrefl (x : S41) : ¬ cmpR x x < 0 := by rw [(lawR.zero x x).2 rfl]; omega
theorem Strict.nodup {l : List S41} (h : Strict l) : l.Nodup := h.imp fun {a b} hab he => by subst he; exact cmp_irrefl _ hab
theorem strict_ext {l l' : List S41} (h : Strict l) (h' : Strict l') (hm : ∀ x, x ∈ l ↔ x ∈ l') : l = l' := by
  have hp : l.Perm l' := (List.perm_ext_iff_of_nodup h.nodup h'.nodup).2 hm
  exact hp.eq_of_pairwise (le := fun a b => cmpR a b < 0) (fun a b _ _ h1 h2 => absurd (lawR.trans a b a h1 h2) (cmp_irrefl a)) h h'
theorem sortedR_iff {l : List S41} : sortedR l = none ↔ l.length ≤ 200 ∧ (∀ x ∈ l, chkR x = none) ∧ Strict l := by
  refine ⟨fun h => sortedR_none h, fun ⟨h1, h2, h3⟩ => ?_⟩
  unfold sortedR
  rw [if_neg (by omega)]
  have : ∀ (l : List S41) (p : Option S41), (∀ x ∈ l, chkR x = none) → Strict l → (∀ q, p = some q → ∀ x ∈ l, cmpR q x < 0) → sortedFrom p l = none := by
    intro l
    induction l with
    | nil => intro p _ _ _; cases p <;> rfl
    | cons t l ih =>
      intro p hc hs hp
      have ht := hc t List.mem_cons_self
      have hrec := ih (some t) (fun x hx => hc x (List.mem_cons_of_mem _ hx)) (List.Pairwise.of_cons hs) (fun q hq x hx => by injection hq with hq; subst hq; exact List.rel_of_pairwise_cons hs hx)
      unfold sortedFrom
      rw [ht]
      cases p with
      | none => simpa using hrec
      | some q =>
        have := hp q rfl t List.mem_cons_self
        simp only
        rw [if_neg (by simp; omega)]
        exact hrec
  exact this l none h2 h3 (fun q hq => by cases hq)
theorem inR_iff {l : List S41} {x : S41} : inR l x = true ↔ x ∈ l := by
  unfold inR
  rw [List.any_eq_true]
  constructor
  · rintro ⟨y, hy, he⟩
    rw [← of_decide_eq_true he]; exact hy
  · exact fun h => ⟨x, h, decide_eq_true rfl⟩
theorem mem_partR {a b : List S41} {is : Bool} {x : S41} : x ∈ partR a b is ↔ x ∈ a ∧ (x ∈ b ↔ is = true) := by
  unfold partR
  rw [List.mem_filter, beq_iff_eq, ← inR_iff (l := b)]
  cases inR b x <;> cases is <;> simp
theorem strict_partR {a b : List S41} {is : Bool} (h : Strict a) : Strict (partR a b is) := List.Pairwise.filter _ h
/-! the union -/
theorem mem_uniqFrom {p : S41} {l : List S41} {x : S41} : x ∈ uniqFrom p l → x ∈ l := by
  induction l generalizing p with
  | nil => intro h; cases h
  | cons y l ih =>
    unfold uniqFrom
    split
    · exact fun h => List.mem_cons_of_mem _ (ih h)
    · intro h
      rcases List.mem_cons.1 h with h | h
      · rw [h]; exact List.mem_cons_self
      · exact List.mem_cons_of_mem _ (ih h)
theorem uniqFrom_mem {p : S41} {l : List S41} {x : S41} : x ∈ l → x = p ∨ x ∈ uniqFrom p l := by
  induction l generalizing p with
  | nil => intro h; cases h
  | cons y l ih =>
    intro h
    unfold uniqFrom
    split
    · rename_i e
      rcases List.mem_cons.1 h with h | h
      · exact .inl (h.trans e)
      · exact ih h
    · rcases List.mem_cons.1 h with h | h
      · exact .inr (by rw [h]; exact List.mem_cons_self)
      · rcases ih (p := y) h with h | h
        · exact .inr (by rw [h]; exact List.mem_cons_self)
        · exact .inr (List.mem_cons_of_mem _ h)
theorem mem_uniq {l : List S41} {x : S41} : x ∈ uniq l ↔ x ∈ l := by
  cases l with
  | nil => exact Iff.rfl
  | cons y l =>
    unfold uniq
    rw [List.mem_cons, List.mem_cons]
    constructor
    · rintro (h | h)
      · exact .inl h
      · exact .inr (mem_uniqFrom h)
    · rintro (h | h)
      · exact .inl h
      · exact uniqFrom_mem h
theorem strict_uniqFrom {p : S41} {l : List S41} (h : (p :: l).Pairwise fun a b => cmpR a b ≤ 0) : (∀ x ∈ uniqFrom p l, cmpR p x < 0) ∧ Strict (uniqFrom p l) := by
  induction l generalizing p with
  | nil => exact ⟨fun x hx => (by cases hx), List.Pairwise.nil⟩
  | cons y l ih =>
    have hpy : cmpR p y ≤ 0 := List.rel_of_pairwise_cons h List.mem_cons_self
    have hy : (y :: l).Pairwise fun a b => cmpR a b ≤ 0 := List.Pairwise.of_cons h
    unfold uniqFrom
    split
    · rename_i e; subst e
      exact ih hy
    · rename_i e
      have hlt : cmpR p y < 0 := by
        rcases Int.lt_or_eq_of_le hpy with h | h
        · exact h
        · exact absurd ((lawR.zero p y).1 h).symm e
      obtain ⟨h1, h2⟩ := ih hy
      refine ⟨fun x hx => ?_, List.Pairwise.cons h1 h2⟩
      rcases List.mem_cons.1 hx with hx | hx
      · rw [hx]; exact hlt
      · exact lawR.trans p y x hlt (h1 x hx)
theorem sortL_sorted (l : List S41) : (sortL l).Pairwise fun a b => cmpR a b ≤ 0 := by
  have h := List.pairwise_mergeSort (le := fun x y => !(ltOf cmpR) y x) (fun a b c => by
      unfold ltOf
      simp only [Bool.not_eq_true', decide_eq_false_iff_not]
      intro h1 h2 h3
      exact absurd h3 (by have := swoR.ntrans c b a; unfold ltOf at this; simp only [decide_eq_false_iff_not] at this; exact this h2 h1)) (fun a b => by
      unfold ltOf
      rw [Bool.or_eq_true, Bool.not_eq_true', Bool.not_eq_true', decide_eq_false_iff_not, decide_eq_false_iff_not]
      have := lawR.anti a b
      omega) l
  refine h.imp fun {a b} hab => ?_
  unfold ltOf at hab
  simp only [Bool.not_eq_true', decide_eq_false_iff_not] at hab
  have := lawR.anti a b
  omega
theorem strict_unionR (a b : List S41) : Strict (unionR a b) := by
  unfold unionR
  have h := sortL_sorted (a ++ b)
  generalize sortL (a ++ b) = l at h
  cases l with
  | nil => exact List.Pairwise.nil
  | cons x l =>
    obtain ⟨h1, h2⟩ := strict_uniqFrom h
    exact List.Pairwise.cons h1 h2
theorem mem_unionR {a b : List S41} {x : S41} : x ∈ unionR a b ↔ x ∈ a ∨ x ∈ b := by
  unfold unionR
  rw [mem_uniq]
  unfold sortL
  rw [List.mem_mergeSort, List.mem_append]
theorem unionR_comm (a b : List S41) : unionR a b = unionR b a := strict_ext (strict_unionR _ _) (strict_unionR _ _) fun x => by rw [mem_unionR, mem_unionR, Or.comm]
theorem chk_unionR {a b : List S41} (ha : ∀ x ∈ a, chkR x = none) (hb : ∀ x ∈ b, chkR x = none) : ∀ x ∈ unionR a b, chkR x = none := fun x hx => by
  rcases mem_unionR.1 hx with h | h
  · exact ha x h
  · exact hb x h
theorem sorted_unionR {a b : List S41} (ha : sortedR a = none) (hb : sortedR b = none) (hl : (unionR a b).length ≤ 200) : sortedR (unionR a b) = none :=
  sortedR_iff.2 ⟨hl, chk_unionR (sortedR_iff.1 ha).2.1 (sortedR_iff.1 hb).2.1, strict_unionR _ _⟩
theorem sorted_partR {a b : List S41} {is : Bool} (ha : sortedR a = none) : sortedR (partR a b is) = none := by
  obtain ⟨h1, h2, h3⟩ := sortedR_iff.1 ha
  exact sortedR_iff.2 ⟨Nat.le_trans (List.length_filter_le _ _) h1, fun x hx => h2 x ((List.mem_filter.1 hx).1), strict_partR h3⟩
theorem part_lengths (a b : List S41) : (partR a b false).length + (partR a b true).length = a.length := by
  unfold partR
  induction a with
  | nil => rfl
  | cons x a ih =>
    rw [List.filter_cons, List.filter_cons]
    cases h : inR b x
    · rw [if_pos (by rfl), if_neg (by decide)]; simp only [List.length_cons]; omega
    · rw [if_neg (by decide), if_pos (by rfl)]; simp only [List.length_cons]; omega
theorem strict_perm {l l' : List S41} (h : l.Nodup) (h' : l'.Nodup) (hm : ∀ x, x ∈ l ↔ x ∈ l') : l.length = l'.length := ((List.perm_ext_iff_of_nodup h h').2 hm).length_eq
theorem union_length {a b : List S41} (ha : Strict a) (hb : Strict b) : (unionR a b).length = a.length + (partR b a false).length := by
  rw [← List.length_append]
  refine strict_perm (strict_unionR a b).nodup ?_ fun x => ?_
  · rw [List.nodup_append]
    refine ⟨ha.nodup, (strict_partR hb).nodup, fun x hx y hy he => ?_⟩
    subst he
    have := (mem_partR.1 hy).2.1 hx
    cases this
  · rw [mem_unionR, List.mem_append, mem_partR]
    by_cases h : x ∈ a <;> simp [h]
theorem union_lengths {a b : List S41} (ha : Strict a) (hb : Strict b) : (unionR a b).length = (partR a b false).length + (partR b a false).length + (partR a b true).length := by
  rw [union_length ha hb]
  have := part_lengths a b
  omega
theorem union_parts {a b : List S41} (ha : Strict a) : unionR (partR a b false) (partR a b true) = a := strict_ext (strict_unionR _ _) ha fun x => by
  rw [mem_unionR, mem_partR, mem_partR]
  by_cases h : x ∈ b <;> simp [h]
theorem union_more {a b : List S41} : unionR a (partR b a false) = unionR a b := strict_ext (strict_unionR _ _) (strict_unionR _ _) fun x => by
  rw [mem_unionR, mem_unionR, mem_partR]
  by_cases h : x ∈ a <;> simp [h]
theorem in_union {a b : List S41} {x : S41} : inR (unionR a b) x = (inR a x || inR b x) := by
  rw [Bool.eq_iff_iff, Bool.or_eq_true, inR_iff, inR_iff, inR_iff, mem_unionR]
theorem in_both {a b : List S41} {x : S41} : inR (partR a b true) x = (inR a x && inR b x) := by
  rw [Bool.eq_iff_iff, Bool.and_eq_true, inR_iff, inR_iff, inR_iff, mem_partR]
  simp
end Go.Proofs.Ytdjamphmndbmjaa.M
