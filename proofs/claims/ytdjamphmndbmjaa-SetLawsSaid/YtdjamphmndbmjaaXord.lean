/- The order of terms and of triples: one outcome each way round, 0 just for equal ones, one behind the other. Plain. -/
import Derived.Test.YtdjamphmndbmjaaXspec1
namespace Go.Proofs.Ytdjamphmndbmjaa.M
open Go.RowKit Go.Proofs.YtdjamphmndbmjaaW.PrintWords Go.Proofs.YtdjamphmndbmjaaW.PrintLast Go.Proofs.YtdjamphmndbmjaaW.PrintMore
set_option linter.unusedVariables false
set_option linter.unusedSimpArgs false

/-- What an order that tells -1, 0, 1 owes. -/
structure LawCmp {α : Type} (c : α → α → Int) : Prop where
  anti : ∀ a b, c b a = - c a b
  zero : ∀ a b, c a b = 0 ↔ a = b
  trans : ∀ a b d, c a b < 0 → c b d < 0 → c a d < 0

theorem lawI : LawCmp cmpI where
  anti a b := by unfold cmpI; split <;> split <;> (try split) <;> omega
  zero a b := by unfold cmpI; split <;> (try split) <;> omega
  trans a b d h1 h2 := by unfold cmpI at *; split at h1 <;> split at h2 <;> (try split at h1) <;> (try split at h2) <;> split <;> (try split) <;> omega

theorem compareBytes_anti : ∀ a b : List UInt8, Lib.compareBytes b a = - Lib.compareBytes a b
  | [], [] => rfl
  | [], _ :: _ => rfl
  | _ :: _, [] => rfl
  | x :: a, y :: b => by
    simp only [Lib.compareBytes]
    rcases Nat.lt_trichotomy x.toNat y.toNat with h | h | h
    · rw [if_neg (show ¬ y < x from by rw [UInt8.lt_iff_toNat_lt]; omega), if_pos (show x < y from by rw [UInt8.lt_iff_toNat_lt]; omega), if_pos (show x < y from by rw [UInt8.lt_iff_toNat_lt]; omega)]; rfl
    · rw [if_neg (show ¬ y < x from by rw [UInt8.lt_iff_toNat_lt]; omega), if_neg (show ¬ x < y from by rw [UInt8.lt_iff_toNat_lt]; omega), if_neg (show ¬ x < y from by rw [UInt8.lt_iff_toNat_lt]; omega), if_neg (show ¬ y < x from by rw [UInt8.lt_iff_toNat_lt]; omega)]
      exact compareBytes_anti a b
    · rw [if_pos (show y < x from by rw [UInt8.lt_iff_toNat_lt]; omega), if_neg (show ¬ x < y from by rw [UInt8.lt_iff_toNat_lt]; omega), if_pos (show y < x from by rw [UInt8.lt_iff_toNat_lt]; omega)]
theorem compareBytes_zero : ∀ a b : List UInt8, Lib.compareBytes a b = 0 ↔ a = b
  | [], [] => by simp [Lib.compareBytes]
  | [], _ :: _ => by simp [Lib.compareBytes]
  | _ :: _, [] => by simp [Lib.compareBytes]
  | x :: a, y :: b => by
    simp only [Lib.compareBytes, List.cons.injEq]
    rcases Nat.lt_trichotomy x.toNat y.toNat with h | h | h
    · rw [if_pos (show x < y from by rw [UInt8.lt_iff_toNat_lt]; omega)]
      exact ⟨fun h0 => by omega, fun h0 => by rw [h0.1] at h; omega⟩
    · rw [if_neg (show ¬ x < y from by rw [UInt8.lt_iff_toNat_lt]; omega), if_neg (show ¬ y < x from by rw [UInt8.lt_iff_toNat_lt]; omega), compareBytes_zero a b]
      exact ⟨fun h0 => ⟨UInt8.toNat_inj.1 h, h0⟩, fun h0 => h0.2⟩
    · rw [if_neg (show ¬ x < y from by rw [UInt8.lt_iff_toNat_lt]; omega), if_pos (show y < x from by rw [UInt8.lt_iff_toNat_lt]; omega)]
      exact ⟨fun h0 => by omega, fun h0 => by rw [h0.1] at h; omega⟩
theorem compareBytes_trans : ∀ a b d : List UInt8, Lib.compareBytes a b < 0 → Lib.compareBytes b d < 0 → Lib.compareBytes a d < 0
  | [], [], _ => fun h _ => by simp [Lib.compareBytes] at h
  | [], _ :: _, [] => fun _ h => by simp [Lib.compareBytes] at h
  | [], _ :: _, _ :: _ => fun _ _ => by simp [Lib.compareBytes]
  | _ :: _, [], _ => fun h _ => by simp [Lib.compareBytes] at h
  | _ :: _, _ :: _, [] => fun _ h => by simp [Lib.compareBytes] at h
  | x :: a, y :: b, z :: d => fun h1 h2 => by
    simp only [Lib.compareBytes, UInt8.lt_iff_toNat_lt] at *
    by_cases p : x.toNat < y.toNat
    · by_cases q : y.toNat < z.toNat
      · rw [if_pos (by omega)]; omega
      · rw [if_neg q] at h2
        by_cases q2 : z.toNat < y.toNat
        · rw [if_pos q2] at h2; omega
        · rw [if_pos (by omega)]; omega
    · rw [if_neg p] at h1
      by_cases p2 : y.toNat < x.toNat
      · rw [if_pos p2] at h1; omega
      · rw [if_neg p2] at h1
        by_cases q : y.toNat < z.toNat
        · rw [if_pos (by omega)]; omega
        · rw [if_neg q] at h2
          by_cases q2 : z.toNat < y.toNat
          · rw [if_pos q2] at h2; omega
          · rw [if_neg q2] at h2
            rw [if_neg (by omega), if_neg (by omega)]
            exact compareBytes_trans a b d h1 h2

theorem bytes_inj' {a b : ByteArray} (h : a.data.toList = b.data.toList) : a = b := by
  obtain ⟨⟨x⟩⟩ := a
  obtain ⟨⟨y⟩⟩ := b
  simp at h
  rw [h]
theorem lawB : LawCmp bcmp where
  anti a b := compareBytes_anti _ _
  zero a b := (compareBytes_zero _ _).trans ⟨bytes_inj', fun h => by rw [h]⟩
  trans a b d := compareBytes_trans _ _ _

/-- Three orders, one behind the other. -/
theorem LawCmp.three {α β γ δ : Type} {c1 : β → β → Int} {c2 : γ → γ → Int} {c3 : δ → δ → Int} (h1 : LawCmp c1) (h2 : LawCmp c2) (h3 : LawCmp c3) (f : α → β) (g : α → γ) (h : α → δ)
    (inj : ∀ a b, f a = f b → g a = g b → h a = h b → a = b) : LawCmp fun a b => orI (c1 (f a) (f b)) (c2 (g a) (g b)) (c3 (h a) (h b)) where
  anti a b := by
    have e1 := h1.anti (f a) (f b); have e2 := h2.anti (g a) (g b); have e3 := h3.anti (h a) (h b)
    show orI _ _ _ = - orI _ _ _
    unfold orI
    rw [e1, e2, e3]
    split <;> split <;> (try split) <;> (try split) <;> omega
  zero a b := by
    have z1 := h1.zero (f a) (f b); have z2 := h2.zero (g a) (g b); have z3 := h3.zero (h a) (h b)
    constructor
    · intro e
      unfold orI at e
      split at e
      · split at e
        · exact inj a b (z1.1 ‹_›) (z2.1 ‹_›) (z3.1 e)
        · exact absurd e ‹_›
      · exact absurd e ‹_›
    · rintro rfl
      unfold orI
      rw [if_pos (z1.2 rfl), if_pos (z2.2 rfl)]
      exact z3.2 rfl
  trans a b d := by
    intro x y
    have key : ∀ {τ : Type} {c : τ → τ → Int}, LawCmp c → ∀ p q r : τ, (c p q = 0 → p = q) ∧ (c q r = 0 → q = r) ∧ (c p p = 0) ∧ (c p q < 0 → c q r < 0 → c p r < 0) := fun L p q r => ⟨(L.zero p q).1, (L.zero q r).1, (L.zero p p).2 rfl, L.trans p q r⟩
    obtain ⟨a1, a2, a3, a4⟩ := key h1 (f a) (f b) (f d)
    obtain ⟨b1, b2, b3, b4⟩ := key h2 (g a) (g b) (g d)
    obtain ⟨d1, d2, d3, d4⟩ := key h3 (h a) (h b) (h d)
    show orI _ _ _ < 0
    unfold orI at *
    by_cases p1 : c1 (f a) (f b) = 0
    · have q1 := a1 p1
      rw [if_pos p1] at x
      rw [q1]
      by_cases p2 : c1 (f b) (f d) = 0
      · rw [if_pos p2] at y ⊢
        by_cases r1 : c2 (g a) (g b) = 0
        · have s1 := b1 r1
          rw [if_pos r1] at x
          rw [s1]
          by_cases r2 : c2 (g b) (g d) = 0
          · rw [if_pos r2] at y ⊢
            exact d4 x y
          · rw [if_neg r2] at y ⊢
            exact y
        · rw [if_neg r1] at x
          by_cases r2 : c2 (g b) (g d) = 0
          · rw [← b2 r2, if_neg r1]
            exact x
          · rw [if_neg r2] at y
            have := b4 x y
            rw [if_neg (by omega)]
            exact this
      · rw [if_neg p2] at y ⊢
        exact y
    · rw [if_neg p1] at x
      by_cases p2 : c1 (f b) (f d) = 0
      · rw [← a2 p2, if_neg p1]
        exact x
      · rw [if_neg p2] at y
        have := a4 x y
        rw [if_neg (by omega)]
        exact this

theorem S35.eq_of {a b : S35} (h0 : a.f0 = b.f0) (h1 : a.f1 = b.f1) (h2 : a.f2 = b.f2) : a = b := by cases a; cases b; simp_all
theorem S41.eq_of {a b : S41} (h0 : a.f0 = b.f0) (h1 : a.f1 = b.f1) (h2 : a.f2 = b.f2) : a = b := by cases a; cases b; simp_all
theorem lawT : LawCmp cmpT := LawCmp.three lawI lawB lawB S35.f0 S35.f1 S35.f2 (fun _ _ => S35.eq_of)
theorem lawR : LawCmp cmpR := LawCmp.three lawT lawT lawT S41.f0 S41.f1 S41.f2 (fun _ _ => S41.eq_of)
instance : DecidableEq S35 := fun a b => decidable_of_iff (cmpT a b = 0) (lawT.zero a b)
instance : DecidableEq S41 := fun a b => decidable_of_iff (cmpR a b = 0) (lawR.zero a b)
end Go.Proofs.Ytdjamphmndbmjaa.M
