/- set.In: of a set that is sorted, whether a triple is in it. By hand. -/
import Derived.Test.YtdjamphmndbmjaaXbs
namespace Go.Proofs.Ytdjamphmndbmjaa.M
open Go.RowKit Go.Proofs.YtdjamphmndbmjaaW.PrintWords Go.Proofs.YtdjamphmndbmjaaW.PrintLast Go.Proofs.YtdjamphmndbmjaaW.PrintMore
set_option linter.unusedVariables false
set_option linter.unusedSimpArgs false

/-- Is a triple in a list? -/
def inR (l : List S41) (t : S41) : Bool := l.any fun x => decide (x = t)
def set_In.f (l0 : List S41) (a1_0 : Int) (a1_1 : ByteArray) (a1_2 : ByteArray) (a1_3 : Int) (a1_4 : ByteArray) (a1_5 : ByteArray) (a1_6 : Int) (a1_7 : ByteArray) (a1_8 : ByteArray) : Option Bool :=
  if sortedR l0 = none then some (inR l0 ⟨⟨a1_0, a1_1, a1_2⟩, ⟨a1_3, a1_4, a1_5⟩, ⟨a1_6, a1_7, a1_8⟩⟩) else none

theorem bs_in {l : List S41} {t : S41} (i : Nat) (h1 : ∀ k (h : k < l.length), k < i → cmpR l[k] t < 0) (h2 : ∀ k (h : k < l.length), i ≤ k → 0 ≤ cmpR l[k] t) (hs : l.Pairwise (fun a b => cmpR a b < 0)) : decide (∃ h : i < l.length, cmpR l[i] t = 0) = inR l t := by
  unfold inR
  rw [Bool.eq_iff_iff, decide_eq_true_iff, List.any_eq_true]
  constructor
  · rintro ⟨h, hz⟩
    exact ⟨l[i], List.getElem_mem h, decide_eq_true ((lawR.zero _ _).1 hz)⟩
  · rintro ⟨x, hx, he⟩
    obtain rfl := of_decide_eq_true he
    obtain ⟨k, hk, hkx⟩ := List.getElem_of_mem hx
    have hz : cmpR l[k] x = 0 := (lawR.zero _ _).2 hkx
    have hik : i ≤ k := by
      rcases Nat.lt_or_ge k i with h | h
      · have := h1 k hk h; omega
      · exact h
    rcases Nat.lt_or_ge i k with h | h
    · have h3 := h2 i (by omega) (Nat.le_refl _)
      have h4 := List.pairwise_iff_getElem.1 hs i k (by omega) hk h
      rw [hkx] at h4
      omega
    · obtain rfl : i = k := by omega
      exact ⟨hk, hz⟩

theorem inR_grown (A0 : Option Addr) (c0 : Nat) (l0 : List S41) (x : S41) (w : World) (hr0 : Kd.C k41 w A0 l0.length l0) (hs : sortedR l0 = none) :
    Calls Try.prog 48 #[.slice A0 l0.length c0, .agg #[.int .i64 x.f0.f0, .string x.f0.f1, .string x.f0.f2, .int .i64 x.f1.f0, .string x.f1.f1, .string x.f1.f2, .int .i64 x.f2.f0, .string x.f2.f1, .string x.f2.f2]] w fun e w' => e = .returned (.bool (inR l0 x)) ∧ ∃ q os, w' = Sort.grow (w.drewN q) os := by
  obtain ⟨hn, _, hp⟩ := sortedR_none hs
  have hbs := fun W (hC : Kd.C k41 W A0 l0.length l0) => bs_calls A0 c0 l0 x W hC hn hp
  have HP := Aside0.mk hp
  have HR := Aside0.mk hr0
  have HBS := Aside0.mk hbs
  obtain ⟨r, hr⟩ : ∃ r, inR l0 x = r := ⟨_, rfl⟩
  rw [hr]
  have HRR := Aside0.mk hr
  clear hbs hr0 hp hn hs hr
  go_enter Try.func48, Try.ntmps48
  go_wp2_with (go_at_call 73; refine (HBS.out _ (Kd.C_alloc HR.out _)).mono ?_; rintro e w' ⟨⟨i, _, h1, h2, rfl⟩, hb⟩; have H1 := Aside0.mk h1; have H2 := Aside0.mk h2; have HB1 := Aside0.mk (alloc_grown hb); clear h1 h2 hb)
  go_ret
  refine ⟨?_, HB1.out⟩
  rw [← HRR.out, ← bs_in i H1.out H2.out HP.out]
  rfl
theorem inR_calls (A0 : Option Addr) (c0 : Nat) (l0 : List S41) (x : S41) (w : World) (hr0 : Kd.C k41 w A0 l0.length l0) (hs : sortedR l0 = none) :
    Calls Try.prog 48 #[.slice A0 l0.length c0, .agg #[.int .i64 x.f0.f0, .string x.f0.f1, .string x.f0.f2, .int .i64 x.f1.f0, .string x.f1.f1, .string x.f1.f2, .int .i64 x.f2.f0, .string x.f2.f1, .string x.f2.f2]] w fun e w' => e = .returned (.bool (inR l0 x)) ∧ Below w.heap.size w w' :=
  (inR_grown A0 c0 l0 x w hr0 hs).mono fun _ _ ⟨he, hb⟩ => ⟨he, grown_below hb⟩
theorem set_In.calls (A0 : Option Addr) (c0 : Nat) (l0 : List S41) (a1_0 : Int) (a1_1 : ByteArray) (a1_2 : ByteArray) (a1_3 : Int) (a1_4 : ByteArray) (a1_5 : ByteArray) (a1_6 : Int) (a1_7 : ByteArray) (a1_8 : ByteArray) (r : Bool) (w : World) (hr0 : Kd.C k41 w A0 l0.length l0) (hc0 : l0.length ≤ c0) (h : set_In.f l0 a1_0 a1_1 a1_2 a1_3 a1_4 a1_5 a1_6 a1_7 a1_8 = some r) :
    Calls Try.prog 48 #[.slice A0 l0.length c0, .agg #[.int .i64 a1_0, .string a1_1, .string a1_2, .int .i64 a1_3, .string a1_4, .string a1_5, .int .i64 a1_6, .string a1_7, .string a1_8]] w fun e w' => e = .returned (.bool r) ∧ Below w.heap.size w w' := by
  unfold set_In.f at h
  split at h
  · rename_i hs
    obtain rfl := Option.some.inj h
    exact inR_calls A0 c0 l0 ⟨⟨a1_0, a1_1, a1_2⟩, ⟨a1_3, a1_4, a1_5⟩, ⟨a1_6, a1_7, a1_8⟩⟩ w hr0 hs
  · cases h
end Go.Proofs.Ytdjamphmndbmjaa.M
