/- Package set by hand: Right, Has, Join, Less, Both; stratasame.Triples. Contracts in plain words, results as rows that are read. -/
import Derived.Test.YtdjamphmndbmjaaXpart
import Derived.Test.YtdjamphmndbmjaaXunion
namespace Go.Proofs.Ytdjamphmndbmjaa.M
open Go.RowKit Go.Proofs.YtdjamphmndbmjaaW.PrintWords Go.Proofs.YtdjamphmndbmjaaW.PrintLast Go.Proofs.YtdjamphmndbmjaaW.PrintMore
set_option linter.unusedVariables false
set_option linter.unusedSimpArgs false

theorem sorted_calls (A : Option Addr) (c : Nat) (l : List S41) (w : World) (hC : Kd.C k41 w A l.length l) (hc : l.length ≤ c) :
    Calls Try.prog 19 #[.slice A l.length c] w fun e w' => e = .returned (errW (sortedR l)) ∧ Below w.heap.size w w' := pSorted.calls A c l _ w hC hc rfl
theorem checkR_calls (x : S41) (w : World) :
    Calls Try.prog 43 #[.agg #[.int .i64 x.f0.f0, .string x.f0.f1, .string x.f0.f2, .int .i64 x.f1.f0, .string x.f1.f1, .string x.f1.f2, .int .i64 x.f2.f0, .string x.f2.f1, .string x.f2.f2]] w fun e w' => e = .returned (errW (chkR x)) ∧ Below w.heap.size w w' := pCheckR.calls _ _ _ _ _ _ _ _ _ _ w rfl
/-- What is wrong with one or two sets. -/
def right2 (a b : List S41) : Option Int := match sortedR a with | some e => some e | none => sortedR b
theorem right2_none {a b : List S41} : right2 a b = none ↔ sortedR a = none ∧ sortedR b = none := by
  unfold right2
  cases h : sortedR a <;> simp
set_option maxHeartbeats 4000000 in
set_option maxRecDepth 100000 in
theorem right2_calls (g0 : Nat) (A0 A1 : Option Addr) (c0 c1 : Nat) (l0 l1 : List S41) (w : World) (h0 : w.cell? ⟨g0, 0, none⟩ = some (.slice A0 l0.length c0)) (h1 : w.cell? ⟨g0, 1, none⟩ = some (.slice A1 l1.length c1))
    (hr0 : Kd.C k41 w A0 l0.length l0) (hr1 : Kd.C k41 w A1 l1.length l1) (hc0 : l0.length ≤ c0) (hc1 : l1.length ≤ c1) :
    Calls Try.prog 47 #[.slice (some ⟨g0, 0, none⟩) 2 2] w fun e w' => e = .returned (errW (right2 l0 l1)) ∧ Below w.heap.size w w' := by
  have HR0 := Aside0.mk hr0
  have HR1 := Aside0.mk hr1
  have H0 := Aside0.mk h0
  have H1 := Aside0.mk h1
  have hS0 := fun W (hC : Kd.C k41 W A0 l0.length l0) => sorted_calls A0 c0 l0 W hC hc0
  have hS1 := fun W (hC : Kd.C k41 W A1 l1.length l1) => sorted_calls A1 c1 l1 W hC hc1
  have HS0 := Aside0.mk hS0
  have HS1 := Aside0.mk hS1
  clear hr0 hr1 h0 h1 hS0 hS1
  go_enter Try.func47, Try.ntmps47
  go_wp2
  go_loopg [4, 5, 8] 2 (fun gg _ _ s8 wr => Aside0 (Below w.heap.size w wr) ∧ ((s8 = .int .i64 0 ∧ gg = 2) ∨ (s8 = .int .i64 1 ∧ gg = 1 ∧ Aside0 (sortedR l0 = none)) ∨ (s8 = .int .i64 2 ∧ gg = 0 ∧ Aside0 (right2 l0 l1 = none))))
  case atStart => exact ⟨⟨Below.refl _ _⟩, .inl ⟨rfl, rfl⟩⟩
  case round =>
    obtain ⟨HB, hrel⟩ := hrel
    rcases hrel with ⟨rfl, rfl⟩ | ⟨rfl, rfl, HN⟩ | ⟨rfl, rfl, HN⟩
    · have h0 := (HB.out.cell (World.block_lt_of_cell? _ _ H0.out)).trans H0.out
      have hS := HS0.out wr (Kd.C_below HR0.out HB.out)
      obtain ⟨r, hr⟩ : ∃ r, sortedR l0 = r := ⟨_, rfl⟩
      rw [hr] at hS
      have HRR := Aside0.mk hr
      clear hr
      cases r with
      | none =>
        rw [errW_none] at hS
        go_wp2_with (go_at_call 19; refine hS.mono ?_; rintro e w' ⟨rfl, hb⟩; have HB1 := Aside0.mk hb; clear hb)
        go_roundg 1
        case measure => omega
        case rel => exact ⟨⟨below_step HB.out HB1.out⟩, .inr (.inl ⟨by go_num, rfl, HRR⟩)⟩
      | some n =>
        rw [errW_some] at hS
        go_wp2_with (go_at_call 19; refine hS.mono ?_; rintro e w' ⟨rfl, hb⟩; have HB1 := Aside0.mk hb; clear hb)
        go_ret
        refine ⟨?_, below_step HB.out HB1.out⟩
        unfold right2
        rw [HRR.out]
        rfl
    · have h1 := (HB.out.cell (World.block_lt_of_cell? _ _ H1.out)).trans H1.out
      have hS := HS1.out wr (Kd.C_below HR1.out HB.out)
      obtain ⟨r, hr⟩ : ∃ r, sortedR l1 = r := ⟨_, rfl⟩
      rw [hr] at hS
      have HRR := Aside0.mk hr
      clear hr
      cases r with
      | none =>
        rw [errW_none] at hS
        go_wp2_with (go_at_call 19; refine hS.mono ?_; rintro e w' ⟨rfl, hb⟩; have HB1 := Aside0.mk hb; clear hb)
        go_roundg 0
        case measure => omega
        case rel => exact ⟨⟨below_step HB.out HB1.out⟩, .inr (.inr ⟨by go_num, rfl, ⟨right2_none.2 ⟨HN.out, HRR.out⟩⟩⟩)⟩
      | some n =>
        rw [errW_some] at hS
        go_wp2_with (go_at_call 19; refine hS.mono ?_; rintro e w' ⟨rfl, hb⟩; have HB1 := Aside0.mk hb; clear hb)
        go_ret
        refine ⟨?_, below_step HB.out HB1.out⟩
        unfold right2
        rw [HN.out]
        show _ = Ending.returned (errW (sortedR l1))
        rw [HRR.out]
        rfl
    · go_wp2
      go_ret
      exact ⟨by rw [HN.out]; rfl, HB.out⟩
set_option maxHeartbeats 4000000 in
set_option maxRecDepth 100000 in
theorem right1_calls (g0 : Nat) (A0 : Option Addr) (c0 : Nat) (l0 : List S41) (w : World) (h0 : w.cell? ⟨g0, 0, none⟩ = some (.slice A0 l0.length c0))
    (hr0 : Kd.C k41 w A0 l0.length l0) (hc0 : l0.length ≤ c0) :
    Calls Try.prog 47 #[.slice (some ⟨g0, 0, none⟩) 1 1] w fun e w' => e = .returned (errW (sortedR l0)) ∧ Below w.heap.size w w' := by
  have HR0 := Aside0.mk hr0
  have H0 := Aside0.mk h0
  have hS0 := fun W (hC : Kd.C k41 W A0 l0.length l0) => sorted_calls A0 c0 l0 W hC hc0
  have HS0 := Aside0.mk hS0
  clear hr0 h0 hS0
  go_enter Try.func47, Try.ntmps47
  go_wp2
  go_loopg [4, 5, 8] 1 (fun gg _ _ s8 wr => Aside0 (Below w.heap.size w wr) ∧ ((s8 = .int .i64 0 ∧ gg = 1) ∨ (s8 = .int .i64 1 ∧ gg = 0 ∧ Aside0 (sortedR l0 = none))))
  case atStart => exact ⟨⟨Below.refl _ _⟩, .inl ⟨rfl, rfl⟩⟩
  case round =>
    obtain ⟨HB, hrel⟩ := hrel
    rcases hrel with ⟨rfl, rfl⟩ | ⟨rfl, rfl, HN⟩
    · have h0 := (HB.out.cell (World.block_lt_of_cell? _ _ H0.out)).trans H0.out
      have hS := HS0.out wr (Kd.C_below HR0.out HB.out)
      obtain ⟨r, hr⟩ : ∃ r, sortedR l0 = r := ⟨_, rfl⟩
      rw [hr] at hS
      have HRR := Aside0.mk hr
      clear hr
      cases r with
      | none =>
        rw [errW_none] at hS
        go_wp2_with (go_at_call 19; refine hS.mono ?_; rintro e w' ⟨rfl, hb⟩; have HB1 := Aside0.mk hb; clear hb)
        go_roundg 0
        case measure => omega
        case rel => exact ⟨⟨below_step HB.out HB1.out⟩, .inr ⟨by go_num, rfl, HRR⟩⟩
      | some n =>
        rw [errW_some] at hS
        go_wp2_with (go_at_call 19; refine hS.mono ?_; rintro e w' ⟨rfl, hb⟩; have HB1 := Aside0.mk hb; clear hb)
        go_ret
        refine ⟨?_, below_step HB.out HB1.out⟩
        rw [HRR.out]
        rfl
    · go_wp2
      go_ret
      exact ⟨by rw [HN.out]; rfl, HB.out⟩
end Go.Proofs.Ytdjamphmndbmjaa.M
