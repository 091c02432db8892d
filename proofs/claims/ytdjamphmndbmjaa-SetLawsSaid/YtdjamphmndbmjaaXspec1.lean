/- Packages term and triple in plain words: what is wrong with a term, a triple, a set; which of two is ahead. The printed functions say just this. -/
import Derived.Test.YtdjamphmndbmjaaMx4
import Derived.Test.YtdjamphmndbmjaaMx5
import Derived.Test.YtdjamphmndbmjaaMx6
import Derived.Test.YtdjamphmndbmjaaMx6
import Derived.Test.YtdjamphmndbmjaaMx7
import Derived.Test.YtdjamphmndbmjaaXall
import Derived.Test.YtdjamphmndbmjaaXcmp
namespace Go.Proofs.Ytdjamphmndbmjaa.M
open Go.RowKit Go.Proofs.YtdjamphmndbmjaaW.PrintWords Go.Proofs.YtdjamphmndbmjaaW.PrintLast Go.Proofs.YtdjamphmndbmjaaW.PrintMore
set_option linter.unusedVariables false
set_option linter.unusedSimpArgs false

def cmpI (a b : Int) : Int := if a < b then -1 else if a > b then 1 else 0
def orI (a b c : Int) : Int := if a = 0 then (if b = 0 then c else b) else a
def cmpT (a b : S35) : Int := orI (cmpI a.f0 b.f0) (bcmp a.f1 b.f1) (bcmp a.f2 b.f2)
def cmpR (a b : S41) : Int := orI (cmpT a.f0 b.f0) (cmpT a.f1 b.f1) (cmpT a.f2 b.f2)

theorem or_f (k : Nat) (a b c : Int) : cmp_Or_int.f (k + 4) [a, b, c] = some (orI a b c) := by
  have w1 : wrap64 1 = 1 := by unfold wrap64; omega
  have w2 : wrap64 2 = 2 := by unfold wrap64; omega
  have w3 : wrap64 3 = 3 := by unfold wrap64; omega
  unfold orI
  by_cases ha : a = 0
  · subst ha
    by_cases hb : b = 0
    · subst hb
      by_cases hc : c = 0
      · subst hc; simp [cmp_Or_int.f, cmp_Or_int.l0, rd, w1, w2, w3]
      · simp [cmp_Or_int.f, cmp_Or_int.l0, rd, w1, w2, w3, hc]
    · simp [cmp_Or_int.f, cmp_Or_int.l0, rd, w1, w2, w3, hb]
  · simp [cmp_Or_int.f, cmp_Or_int.l0, rd, w1, w2, w3, ha]

theorem cmpI_f (a b : Int) : cmp_Compare_int.f a b = some (cmpI a b) := by
  unfold cmp_Compare_int.f cmp_isNaN_int.f cmpI
  simp only [Option.bind_some, bne_self_eq_false, if_false, Bool.false_eq_true]
  split
  · rfl
  · split <;> rfl

theorem cmpT_f (k : Nat) (x y : S35) : term_Compare.f (k + 4) x.f0 x.f1 x.f2 y.f0 y.f1 y.f2 = some (cmpT x y) := by
  unfold term_Compare.f strings_Compare.f cmpT
  rw [cmpI_f]
  simp only [Option.bind_some]
  rw [or_f]
  rfl

theorem cmpR_f (k : Nat) (x y : S41) : triple_Compare.f (k + 4) x.f0.f0 x.f0.f1 x.f0.f2 x.f1.f0 x.f1.f1 x.f1.f2 x.f2.f0 x.f2.f1 x.f2.f2 y.f0.f0 y.f0.f1 y.f0.f2 y.f1.f0 y.f1.f1 y.f1.f2 y.f2.f0 y.f2.f1 y.f2.f2 = some (cmpR x y) := by
  unfold triple_Compare.f cmpR
  rw [cmpT_f, cmpT_f, cmpT_f]
  simp only [Option.bind_some]
  rw [or_f]
  rfl

/-- Which bytes a term of a kind may have. -/
def predK (k : Int) : Int → Bool := if k = 1 then isName else if k = 2 then isAnon else isText
/-- Is a text one of a kind? -/
def okS (k : Int) (s : ByteArray) : Bool := (bytesOf s).all (predK k) && (k == 3 || s.size != 0) && (k != 1 || isLetter (bt s 0))
def chkT (t : S35) : Option Int :=
  if 1 ≤ t.f0 ∧ t.f0 ≤ 3 then (if t.f1.size > 24 then some 4 else if okS t.f0 t.f1 = true then (if t.f2.size = 0 then none else if t.f0 = 3 ∧ t.f2.size = 2 ∧ (bytesOf t.f2).all isLetter = true then none else some 2) else some 2) else some 1
def chkR (t : S41) : Option Int :=
  match chkT t.f0 with
  | some e => some e
  | none => match chkT t.f1 with
    | some e => some e
    | none => match chkT t.f2 with
      | some e => some e
      | none => if t.f0.f0 ≠ 3 ∧ t.f1.f0 = 1 then none else some 3
def sortedFrom : Option S41 → List S41 → Option Int
  | _, [] => none
  | p, t :: l => match chkR t with
    | some e => some e
    | none => if (match p with | some q => decide (0 ≤ cmpR q t) | none => false) = true then some 6 else sortedFrom (some t) l
def sortedR (l : List S41) : Option Int := if l.length > 200 then some 4 else sortedFrom none l

theorem predOf_bytes (k : Int) (h1 : 1 ≤ k) (h3 : k ≤ 3) : ∃ fn, term_bytes.f k = some fn ∧ predOf fn = some (predK k) := by
  unfold term_bytes.f predK
  by_cases e1 : k = 1
  · exact ⟨_, by rw [if_pos e1], by rw [if_pos e1]; rfl⟩
  · by_cases e2 : k = 2
    · exact ⟨_, by rw [if_neg e1, if_pos e2], by rw [if_neg e1, if_pos e2]; rfl⟩
    · exact ⟨_, by rw [if_neg e1, if_neg e2], by rw [if_neg e1, if_neg e2]; rfl⟩
theorem all_f (s : ByteArray) (fn : Nat) (p : Int → Bool) (hs : s.size ≤ 9223372036854775807) (h : predOf fn = some p) : term_all.f s fn = some ((bytesOf s).all p) := by
  unfold term_all.f
  rw [if_pos hs, h]
  rfl
theorem letter_f (c : Int) : term_letter.f c = some (isLetter c) := by
  unfold term_letter.f isLetter
  by_cases h : 97 ≤ c
  · rw [if_pos (by omega)]; simp [h]
  · rw [if_neg (by omega)]; simp [h]
theorem size_nil (s : ByteArray) : s.toList = ([] : List UInt8) ↔ s.size = 0 := by
  rw [ByteArray.toList_eq]
  constructor
  · intro h
    have := congrArg List.length h
    simpa [data_length] using this
  · intro h
    exact List.eq_nil_of_length_eq_zero (by rw [data_length]; exact h)
theorem bytesOf_nil {s : ByteArray} (h : s.size = 0) : bytesOf s = [] := List.eq_nil_of_length_eq_zero (by rw [bytesOf_length]; exact h)

theorem chkT_j0 (k : Nat) (b : Bool) (x : S35) : term_Check.j0 (k + 1) b x.f0 x.f1 x.f2 = some (if b = true then some 2 else if x.f2.size = 0 then none else if x.f0 = 3 ∧ x.f2.size = 2 ∧ (bytesOf x.f2).all isLetter = true then none else some 2) := by
  simp only [term_Check.j0]
  by_cases hb : b = true
  · rw [if_pos hb, if_pos hb]
  · rw [if_neg hb, if_neg hb]
    by_cases h0 : x.f2.size = 0
    · rw [if_pos ((size_nil _).mpr h0), if_pos h0]
    · rw [if_neg (fun h => h0 ((size_nil _).mp h)), if_neg h0]
      by_cases h3 : x.f0 = 3
      · rw [if_pos h3]
        by_cases h2 : x.f2.size = 2
        · rw [if_pos (by omega), all_f x.f2 _ isLetter (by omega) (by rfl)]
          simp only [Option.bind_some]
          cases (bytesOf x.f2).all isLetter
          · rw [if_neg (by decide), if_neg (by simp)]
          · rw [if_pos rfl, if_pos ⟨h3, h2, rfl⟩]
        · rw [if_neg (by omega), if_neg (fun h => h2 h.2.1)]
      · rw [if_neg h3, if_neg (fun h => h3 h.1)]

theorem chkT_f (k : Nat) (x : S35) : term_Check.f (k + 1) x.f0 x.f1 x.f2 = some (chkT x) := by
  unfold term_Check.f chkT term_Kind.f
  by_cases h1 : 1 ≤ x.f0
  · rw [if_pos (by omega)]
    simp only [Option.bind_some]
    by_cases h3 : x.f0 ≤ 3
    · rw [if_pos (show decide (x.f0 ≤ 3) = true by simpa using h3), if_pos (show 1 ≤ x.f0 ∧ x.f0 ≤ 3 from ⟨h1, h3⟩)]
      by_cases hs : x.f1.size > 24
      · rw [if_pos (show (x.f1.size : Int) > 24 by omega), if_pos hs]
      · rw [if_neg (show ¬ (x.f1.size : Int) > 24 by omega), if_neg hs]
        obtain ⟨fn, hfn, hp⟩ := predOf_bytes x.f0 h1 h3
        rw [hfn]
        simp only [Option.bind_some]
        rw [all_f x.f1 fn _ (by omega) hp]
        simp only [Option.bind_some]
        unfold okS
        cases ha : (bytesOf x.f1).all (predK x.f0)
        · rw [if_neg (by decide), chkT_j0]
          simp
        · rw [if_pos rfl]
          by_cases k3 : x.f0 = 3
          · rw [if_pos k3, if_neg (by omega), chkT_j0, k3]
            simp
          · rw [if_neg k3]
            by_cases h0 : x.f1.size = 0
            · rw [if_pos ((size_nil _).mpr h0), chkT_j0]
              simp [h0, k3]
            · rw [if_neg (fun h => h0 ((size_nil _).mp h))]
              by_cases k1 : x.f0 = 1
              · rw [if_pos k1, if_pos (by omega), letter_f]
                simp only [Option.bind_some]
                rw [chkT_j0]
                cases hl : isLetter (bt x.f1 0) <;> simp [k1, h0]
              · rw [if_neg k1, chkT_j0]
                simp [k1, k3, h0]
    · rw [if_neg (show ¬ (decide (x.f0 ≤ 3) = true) by simpa using h3), if_neg (show ¬ (1 ≤ x.f0 ∧ x.f0 ≤ 3) from fun h => h3 h.2)]
  · rw [if_neg (show ¬ x.f0 ≥ 1 by omega), if_neg (show ¬ (1 ≤ x.f0 ∧ x.f0 ≤ 3) from fun h => h1 h.1)]
    simp only [Option.bind_some]
    rw [if_neg (by decide)]

theorem chkR_f (k : Nat) (x : S41) : triple_Check.f (k + 5) x.f0.f0 x.f0.f1 x.f0.f2 x.f1.f0 x.f1.f1 x.f1.f2 x.f2.f0 x.f2.f1 x.f2.f2 = some (chkR x) := by
  have w1 : wrap64 1 = 1 := by unfold wrap64; omega
  have w2 : wrap64 2 = 2 := by unfold wrap64; omega
  have w3 : wrap64 3 = 3 := by unfold wrap64; omega
  have e0 := fun k => chkT_f k x.f0
  have e1 := fun k => chkT_f k x.f1
  have e2 := fun k => chkT_f k x.f2
  unfold triple_Check.f chkR triple_Check.l0
  cases h0 : chkT x.f0 with
  | some e => simp [rd_T35, e0, h0]
  | none =>
    simp [rd_T35, e0, h0, w1]
    unfold triple_Check.l0
    cases h1 : chkT x.f1 with
    | some e => simp [rd_T35, e1, h1]
    | none =>
      simp [rd_T35, e1, h1, w2]
      unfold triple_Check.l0
      cases h2 : chkT x.f2 with
      | some e => simp [rd_T35, e2, h2]
      | none =>
        simp [rd_T35, e2, h2, w3]
        unfold triple_Check.l0 triple_shape.f
        by_cases a : x.f0.f0 = 3 <;> by_cases b : x.f1.f0 = 1 <;> simp [a, b]

theorem rd_T41_at (l : List S41) (i : Nat) (h : i < l.length) : rd_T41 l (i : Int) = l[i] := by
  simp [rd_T41, List.getD_eq_getElem?_getD, h]
theorem wrap_small {i : Int} (h0 : 0 ≤ i) (h1 : i ≤ 1000000000) : wrap64 i = i := by unfold wrap64; omega

/-- One round of Sorted's loop: from place i on. -/
theorem sorted_l0 (l : List S41) (hl : l.length ≤ 200) (d : Nat) : ∀ (i : Nat) (p : Option S41), i ≤ l.length → l.length - i = d → (0 < i → ∃ h : i - 1 < l.length, p = some l[i - 1]) → (i = 0 → p = none) →
    triple_Sorted.l0 (d + 7) l l (l.length : Int) (i : Int) = some (sortedFrom p (l.drop i)) := by
  induction d with
  | zero =>
    intro i p hi hd _ _
    obtain rfl : i = l.length := by omega
    unfold triple_Sorted.l0
    rw [if_neg (by omega), List.drop_length]
    rfl
  | succ d ih =>
    intro i p hi hd hp hp0
    have hlt : i < l.length := by omega
    have hdrop : l.drop i = l[i] :: l.drop (i + 1) := List.drop_eq_getElem_cons hlt
    rw [hdrop]
    have hw : wrap64 ((i : Int) + 1) = ((i + 1 : Nat) : Int) := by rw [wrap_small (by omega) (by omega)]; omega
    have e : d + 1 + 7 = (d + 7) + 1 := by omega
    rw [e]
    unfold triple_Sorted.l0
    rw [if_pos (by omega), if_pos (by omega), if_pos (by omega), rd_T41_at l i hlt]
    rw [show d + 7 = (d + 2) + 5 by omega, chkR_f]
    simp only [Option.bind_some]
    rw [show (d + 2) + 5 = d + 7 by omega]
    cases hc : chkR l[i] with
    | some e => simp [sortedFrom, hc]
    | none =>
      simp only [Option.isNone_none, if_true, sortedFrom, hc]
      have ihn := ih (i + 1) (some l[i]) (by omega) (by omega) (fun _ => ⟨by simpa using hlt, by simp⟩) (fun h => by omega)
      rcases Nat.eq_zero_or_pos i with h0 | hpos
      · have hpn := hp0 h0
        subst hpn
        rw [if_neg (by omega), hw, ihn]
        simp
      · obtain ⟨h1, rfl⟩ := hp hpos
        have hw1 : wrap64 ((i : Int) - 1) = ((i - 1 : Nat) : Int) := by rw [wrap_small (by omega) (by omega)]; omega
        rw [if_pos (by omega), hw1, if_pos (by omega), if_pos (by omega), rd_T41_at l (i - 1) h1]
        rw [show d + 7 = (d + 3) + 4 by omega, cmpR_f]
        simp only [Option.bind_some]
        rw [show (d + 3) + 4 = d + 7 by omega]
        by_cases h : 0 ≤ cmpR l[i - 1] l[i]
        · rw [if_pos (by omega), if_pos (by simpa using h)]
        · rw [if_neg (by omega), if_neg (by simpa using h), hw, ihn]

theorem sortedR_f (l : List S41) : triple_Sorted.f (l.length + 7) l = some (sortedR l) := by
  unfold triple_Sorted.f sortedR
  by_cases h : l.length > 200
  · rw [if_pos (by omega), if_pos h]
  · rw [if_neg (by omega), if_neg h]
    have := sorted_l0 l (by omega) l.length 0 none (by omega) (by omega) (fun h => absurd h (Nat.lt_irrefl 0)) (fun _ => rfl)
    rw [List.drop_zero] at this
    exact this

/-! ### The contracts in these words -/
def pCheckT.f (a0_0 : Int) (a0_1 : ByteArray) (a0_2 : ByteArray) : Option (Option Int) := some (chkT ⟨a0_0, a0_1, a0_2⟩)
theorem pCheckT.calls (a0_0 : Int) (a0_1 : ByteArray) (a0_2 : ByteArray) (r : Option Int) (w : World) (h : pCheckT.f a0_0 a0_1 a0_2 = some r) :
    Calls Try.prog 24 #[.agg #[.int .i64 a0_0, .string a0_1, .string a0_2]] w fun e w' => e = .returned (errW r) ∧ Below w.heap.size w w' :=
  term_Check.calls 1 a0_0 a0_1 a0_2 r w ((chkT_f 0 ⟨a0_0, a0_1, a0_2⟩).trans h)
def pCompareT.f (a0_0 : Int) (a0_1 : ByteArray) (a0_2 : ByteArray) (a1_0 : Int) (a1_1 : ByteArray) (a1_2 : ByteArray) : Option Int := some (cmpT ⟨a0_0, a0_1, a0_2⟩ ⟨a1_0, a1_1, a1_2⟩)
theorem pCompareT.calls (a0_0 : Int) (a0_1 : ByteArray) (a0_2 : ByteArray) (a1_0 : Int) (a1_1 : ByteArray) (a1_2 : ByteArray) (r : Int) (w : World) (h : pCompareT.f a0_0 a0_1 a0_2 a1_0 a1_1 a1_2 = some r) :
    Calls Try.prog 27 #[.agg #[.int .i64 a0_0, .string a0_1, .string a0_2], .agg #[.int .i64 a1_0, .string a1_1, .string a1_2]] w fun e w' => e = .returned (.int .i64 r) ∧ Below w.heap.size w w' :=
  term_Compare.calls 4 a0_0 a0_1 a0_2 a1_0 a1_1 a1_2 r w ((cmpT_f 0 ⟨a0_0, a0_1, a0_2⟩ ⟨a1_0, a1_1, a1_2⟩).trans h)
def pCheckR.f (a0_0 : Int) (a0_1 : ByteArray) (a0_2 : ByteArray) (a0_3 : Int) (a0_4 : ByteArray) (a0_5 : ByteArray) (a0_6 : Int) (a0_7 : ByteArray) (a0_8 : ByteArray) : Option (Option Int) := some (chkR ⟨⟨a0_0, a0_1, a0_2⟩, ⟨a0_3, a0_4, a0_5⟩, ⟨a0_6, a0_7, a0_8⟩⟩)
theorem pCheckR.calls (a0_0 : Int) (a0_1 : ByteArray) (a0_2 : ByteArray) (a0_3 : Int) (a0_4 : ByteArray) (a0_5 : ByteArray) (a0_6 : Int) (a0_7 : ByteArray) (a0_8 : ByteArray) (r : Option Int) (w : World) (h : pCheckR.f a0_0 a0_1 a0_2 a0_3 a0_4 a0_5 a0_6 a0_7 a0_8 = some r) :
    Calls Try.prog 43 #[.agg #[.int .i64 a0_0, .string a0_1, .string a0_2, .int .i64 a0_3, .string a0_4, .string a0_5, .int .i64 a0_6, .string a0_7, .string a0_8]] w fun e w' => e = .returned (errW r) ∧ Below w.heap.size w w' :=
  triple_Check.calls 5 a0_0 a0_1 a0_2 a0_3 a0_4 a0_5 a0_6 a0_7 a0_8 r w ((chkR_f 0 ⟨⟨a0_0, a0_1, a0_2⟩, ⟨a0_3, a0_4, a0_5⟩, ⟨a0_6, a0_7, a0_8⟩⟩).trans h)
def pCompareR.f (a0_0 : Int) (a0_1 : ByteArray) (a0_2 : ByteArray) (a0_3 : Int) (a0_4 : ByteArray) (a0_5 : ByteArray) (a0_6 : Int) (a0_7 : ByteArray) (a0_8 : ByteArray) (a1_0 : Int) (a1_1 : ByteArray) (a1_2 : ByteArray) (a1_3 : Int) (a1_4 : ByteArray) (a1_5 : ByteArray) (a1_6 : Int) (a1_7 : ByteArray) (a1_8 : ByteArray) : Option Int :=
  some (cmpR ⟨⟨a0_0, a0_1, a0_2⟩, ⟨a0_3, a0_4, a0_5⟩, ⟨a0_6, a0_7, a0_8⟩⟩ ⟨⟨a1_0, a1_1, a1_2⟩, ⟨a1_3, a1_4, a1_5⟩, ⟨a1_6, a1_7, a1_8⟩⟩)
theorem compareR_calls (x y : S41) (w : World) :
    Calls Try.prog 46 #[.agg #[.int .i64 x.f0.f0, .string x.f0.f1, .string x.f0.f2, .int .i64 x.f1.f0, .string x.f1.f1, .string x.f1.f2, .int .i64 x.f2.f0, .string x.f2.f1, .string x.f2.f2], .agg #[.int .i64 y.f0.f0, .string y.f0.f1, .string y.f0.f2, .int .i64 y.f1.f0, .string y.f1.f1, .string y.f1.f2, .int .i64 y.f2.f0, .string y.f2.f1, .string y.f2.f2]] w fun e w' => e = .returned (.int .i64 (cmpR x y)) ∧ Below w.heap.size w w' :=
  triple_Compare.calls 4 _ _ _ _ _ _ _ _ _ _ _ _ _ _ _ _ _ _ _ w (cmpR_f 0 x y)
theorem compareR_grown (x y : S41) (w : World) :
    Calls Try.prog 46 #[.agg #[.int .i64 x.f0.f0, .string x.f0.f1, .string x.f0.f2, .int .i64 x.f1.f0, .string x.f1.f1, .string x.f1.f2, .int .i64 x.f2.f0, .string x.f2.f1, .string x.f2.f2], .agg #[.int .i64 y.f0.f0, .string y.f0.f1, .string y.f0.f2, .int .i64 y.f1.f0, .string y.f1.f1, .string y.f1.f2, .int .i64 y.f2.f0, .string y.f2.f1, .string y.f2.f2]] w fun e w' => e = .returned (.int .i64 (cmpR x y)) ∧ ∃ q os, w' = Sort.grow (w.drewN q) os :=
  (triple_Compare.callsG 4 _ _ _ _ _ _ _ _ _ _ _ _ _ _ _ _ _ _ _ w (cmpR_f 0 x y)).mono fun _ _ ⟨he, hb⟩ => ⟨he, hb.grown⟩
theorem compareT_grown (x y : S35) (w : World) :
    Calls Try.prog 27 #[.agg #[.int .i64 x.f0, .string x.f1, .string x.f2], .agg #[.int .i64 y.f0, .string y.f1, .string y.f2]] w fun e w' => e = .returned (.int .i64 (cmpT x y)) ∧ ∃ q os, w' = Sort.grow (w.drewN q) os :=
  (term_Compare.callsG 4 _ _ _ _ _ _ _ w (cmpT_f 0 x y)).mono fun _ _ ⟨he, hb⟩ => ⟨he, hb.grown⟩
theorem pCompareR.calls (a0_0 : Int) (a0_1 : ByteArray) (a0_2 : ByteArray) (a0_3 : Int) (a0_4 : ByteArray) (a0_5 : ByteArray) (a0_6 : Int) (a0_7 : ByteArray) (a0_8 : ByteArray) (a1_0 : Int) (a1_1 : ByteArray) (a1_2 : ByteArray) (a1_3 : Int) (a1_4 : ByteArray) (a1_5 : ByteArray) (a1_6 : Int) (a1_7 : ByteArray) (a1_8 : ByteArray) (r : Int) (w : World)
    (h : pCompareR.f a0_0 a0_1 a0_2 a0_3 a0_4 a0_5 a0_6 a0_7 a0_8 a1_0 a1_1 a1_2 a1_3 a1_4 a1_5 a1_6 a1_7 a1_8 = some r) :
    Calls Try.prog 46 #[.agg #[.int .i64 a0_0, .string a0_1, .string a0_2, .int .i64 a0_3, .string a0_4, .string a0_5, .int .i64 a0_6, .string a0_7, .string a0_8], .agg #[.int .i64 a1_0, .string a1_1, .string a1_2, .int .i64 a1_3, .string a1_4, .string a1_5, .int .i64 a1_6, .string a1_7, .string a1_8]] w fun e w' => e = .returned (.int .i64 r) ∧ Below w.heap.size w w' := by
  obtain rfl := Option.some.inj h
  exact compareR_calls ⟨⟨a0_0, a0_1, a0_2⟩, ⟨a0_3, a0_4, a0_5⟩, ⟨a0_6, a0_7, a0_8⟩⟩ ⟨⟨a1_0, a1_1, a1_2⟩, ⟨a1_3, a1_4, a1_5⟩, ⟨a1_6, a1_7, a1_8⟩⟩ w
def pSorted.f (l0 : List S41) : Option (Option Int) := some (sortedR l0)
theorem pSorted.calls (A0 : Option Addr) (c0 : Nat) (l0 : List S41) (r : Option Int) (w : World) (hr0 : Kd.C k41 w A0 l0.length l0) (hc0 : l0.length ≤ c0) (h : pSorted.f l0 = some r) :
    Calls Try.prog 19 #[.slice A0 l0.length c0] w fun e w' => e = .returned (errW r) ∧ Below w.heap.size w w' :=
  triple_Sorted.calls _ A0 c0 l0 r w hr0 hc0 ((sortedR_f l0).trans h)
end Go.Proofs.Ytdjamphmndbmjaa.M
