/- Part 4 of 4 of the proof of ChainSameSaid: a law of the given program, for every input; no condition is added. -/
import Derived.Test.YtdjamphmndbmjaaChainSameB2
import Derived.Deep.Slices
import Derived.Deep.Strs
import Derived.ChangeArms
import Derived.Carry
import Derived.OpenShut
import Derived.Test.YtdjamphmndbmjaaRows
import Derived.WalkKit
import Derived.ProofKit
import Derived.ShutString
import Derived.ChangeOld
import Derived.Below
import Derived.SizedLaws
/- Package layer: Then (printed by wip/gen_lay5.py). -/
namespace Go.Proofs.Ytdjamphmndbmjaa.M
open Go.RowKit Go.Proofs.YtdjamphmndbmjaaW.PrintWords Go.Proofs.YtdjamphmndbmjaaW.PrintLast Go.Proofs.YtdjamphmndbmjaaW.PrintMore
set_option linter.unusedVariables false
set_option linter.unusedSimpArgs false

set_option maxHeartbeats 16000000 in
set_option maxRecDepth 100000 in
theorem then_calls (A1 : Option Addr) (c1 : Nat) (l1 : List S41) (A2 : Option Addr) (c2 : Nat) (l2 : List S41) (A3 : Option Addr) (c3 : Nat) (l3 : List S41) (A4 : Option Addr) (c4 : Nat) (l4 : List S41) (w : World) (hr1 : Kd.C k41 w A1 l1.length l1) (hc1 : l1.length ≤ c1) (hr2 : Kd.C k41 w A2 l2.length l2) (hc2 : l2.length ≤ c2) (hr3 : Kd.C k41 w A3 l3.length l3) (hc3 : l3.length ≤ c3) (hr4 : Kd.C k41 w A4 l4.length l4) (hc4 : l4.length ≤ c4) :
    Calls Try.prog 34 #[.agg #[.slice A1 l1.length c1, .slice A2 l2.length c2], .agg #[.slice A3 l3.length c3, .slice A4 l4.length c4]] w fun e w' => ∃ v, e = .returned (.tuple #[v, errW (thenR l1 l2 l3 l4).2]) ∧ LRow w' w.heap.size v (thenR l1 l2 l3 l4).1.1 (thenR l1 l2 l3 l4).1.2 ∧ Below w.heap.size w w' := by
  obtain ⟨W0, hW0⟩ : ∃ W0, W0 = ((((w.alloc (.cells #[.slice A1 l1.length c1, .slice A2 l2.length c2] 69)).alloc (.cells #[.slice A3 l3.length c3, .slice A4 l4.length c4] 69)).alloc (.cells #[.slice none 0 0, .slice none 0 0] 69 (0, 0))).alloc (.cells #[.slice A1 l1.length c1, .slice A2 l2.length c2, .slice A3 l3.length c3, .slice A4 l4.length c4] 69)) := ⟨_, rfl⟩
  have HR1 : Aside0 (Kd.C k41 W0 A1 l1.length l1) := ⟨by rw [hW0]; exact Kd.C_alloc (Kd.C_alloc (Kd.C_alloc (Kd.C_alloc hr1 _) _) _) _⟩
  have HR2 : Aside0 (Kd.C k41 W0 A2 l2.length l2) := ⟨by rw [hW0]; exact Kd.C_alloc (Kd.C_alloc (Kd.C_alloc (Kd.C_alloc hr2 _) _) _) _⟩
  have HR3 : Aside0 (Kd.C k41 W0 A3 l3.length l3) := ⟨by rw [hW0]; exact Kd.C_alloc (Kd.C_alloc (Kd.C_alloc (Kd.C_alloc hr3 _) _) _) _⟩
  have HR4 : Aside0 (Kd.C k41 W0 A4 l4.length l4) := ⟨by rw [hW0]; exact Kd.C_alloc (Kd.C_alloc (Kd.C_alloc (Kd.C_alloc hr4 _) _) _) _⟩
  have HB0 : Aside0 (Below w.heap.size w W0) := ⟨by rw [hW0]; exact below_alloc (below_alloc (below_alloc (below_alloc (Below.refl _ _) _) _) _) _⟩
  have BA : Aside0 (Box W0 w.heap.size #[.slice A1 l1.length c1, .slice A2 l2.length c2]) := ⟨by rw [hW0]; exact fun c v h => cell?_alloc_old' (cell?_alloc_old' (cell?_alloc_old' (Box.new w _ _ c v h) _) _) _⟩
  have BB : Aside0 (Box W0 (w.heap.size + 1) #[.slice A3 l3.length c3, .slice A4 l4.length c4]) := ⟨by rw [hW0]; exact fun c v h => cell?_alloc_old' (cell?_alloc_old' (by have q := Box.new (w.alloc (.cells #[.slice A1 l1.length c1, .slice A2 l2.length c2] 69)) #[.slice A3 l3.length c3, .slice A4 l4.length c4] 69 c v h; rw [alloc_size1] at q; exact q) _) _⟩
  have HK : Aside0 (W0.heap[w.heap.size + 1 + 1]? = some (.cells #[.slice none 0 0, .slice none 0 0] 69 (0, 0))) := ⟨by rw [hW0]; exact blk_alloc (by have q := blk_new ((w.alloc (.cells #[.slice A1 l1.length c1, .slice A2 l2.length c2] 69)).alloc (.cells #[.slice A3 l3.length c3, .slice A4 l4.length c4] 69)) (.cells #[.slice none 0 0, .slice none 0 0] 69 (0, 0)); rw [alloc_size1, alloc_size1] at q; exact q) _⟩
  have BS : Aside0 (Box W0 (w.heap.size + 1 + 1 + 1) #[.slice A1 l1.length c1, .slice A2 l2.length c2, .slice A3 l3.length c3, .slice A4 l4.length c4]) := ⟨by rw [hW0]; exact fun c v h => (by have q := Box.new (((w.alloc (.cells #[.slice A1 l1.length c1, .slice A2 l2.length c2] 69)).alloc (.cells #[.slice A3 l3.length c3, .slice A4 l4.length c4] 69)).alloc (.cells #[.slice none 0 0, .slice none 0 0] 69 (0, 0))) #[.slice A1 l1.length c1, .slice A2 l2.length c2, .slice A3 l3.length c3, .slice A4 l4.length c4] 69 c v h; rw [alloc_size1, alloc_size1, alloc_size1] at q; exact q)⟩
  have hz : W0.heap.size = w.heap.size + 1 + 1 + 1 + 1 := by rw [hW0, alloc_size1, alloc_size1, alloc_size1, alloc_size1]
  have HG : Aside0 (w.heap.size ≤ W0.heap.size) := ⟨by omega⟩
  have HZ := Aside0.mk hz; have HW0 := Aside0.mk hW0; clear hz
  have hc12 := fun W h1 h2 => lcheck_calls A1 c1 l1 A2 c2 l2 W h1 hc1 h2 hc2
  have hc34 := fun W h3 h4 => lcheck_calls A3 c3 l3 A4 c4 l4 W h3 hc3 h4 hc4
  have HC12 := Aside0.mk hc12; have HC34 := Aside0.mk hc34; clear hr1 hr2 hr3 hr4 hc12 hc34
  have HN1 := Aside0.mk hc1
  have HN2 := Aside0.mk hc2
  have HN3 := Aside0.mk hc3
  have HN4 := Aside0.mk hc4
  clear hc1 hc2 hc3 hc4
  go_enter Try.func34, Try.ntmps34
  go_wp2
  have HS0 : Aside0 (Below W0.heap.size W0 ((((w.alloc (.cells #[.slice A1 l1.length c1, .slice A2 l2.length c2] 69)).alloc (.cells #[.slice A3 l3.length c3, .slice A4 l4.length c4] 69)).alloc (.cells #[.slice none 0 0, .slice none 0 0] 69 (0, 0))).alloc (.cells #[.slice A1 l1.length c1, .slice A2 l2.length c2, .slice A3 l3.length c3, .slice A4 l4.length c4] 69))) := ⟨by rw [HW0.out]; exact Below.refl _ _⟩
  clear hW0
  go_loopg [7, 8, 14] 2 (fun gg _ _ s14 wr => Aside0 (Below W0.heap.size W0 wr) ∧ ((s14 = .int .i64 0 ∧ gg = 2) ∨ (s14 = .int .i64 1 ∧ gg = 1 ∧ Aside0 (layErr l1 l2 = none)) ∨ (s14 = .int .i64 2 ∧ gg = 0 ∧ Aside0 (layErr l1 l2 = none ∧ layErr l3 l4 = none))))
  case atStart => exact ⟨HS0, .inl ⟨rfl, rfl⟩⟩
  case round =>
    obtain ⟨HL, hrel⟩ := hrel
    rcases hrel with ⟨rfl, rfl⟩ | ⟨rfl, rfl, HN⟩ | ⟨rfl, rfl, HN⟩
    · have z0 := (Box.keep (Below.refl _ _) HL.out BS.out) 0 (.slice A1 l1.length c1) rfl; have z1 := (Box.keep (Below.refl _ _) HL.out BS.out) 1 (.slice A2 l2.length c2) rfl
      go_wp2_with (first | (go_at_call 33; refine stop_ ?_) | (go_at_call 49; refine stop_ ?_))
      refine ⟨?_⟩
      clear z0 z1
      refine Calls.mono (HC12.out _ (Kd.C_below HR1.out (by repeat (first | exact HL.out | refine below_alloc ?_ _ | refine pw_below_drewN ?_ _ | refine below_drew1 ?_ | refine below_set ?_ HG2.out))) (Kd.C_below HR2.out (by repeat (first | exact HL.out | refine below_alloc ?_ _ | refine pw_below_drewN ?_ _ | refine below_drew1 ?_ | refine below_set ?_ HG2.out)))) ?_
      rintro e w' ⟨he, hb⟩
      have HLn := Aside0.mk (below_step (show Below W0.heap.size W0 _ from (by repeat (first | exact HL.out | refine below_alloc ?_ _ | refine pw_below_drewN ?_ _ | refine below_drew1 ?_ | refine below_set ?_ HG2.out))) hb); clear HL hb; have HL := HLn; clear HLn
      cases hq : layErr l1 l2 with
      | none =>
        rw [hq, errW_none] at he; subst he; have HQ := Aside0.mk hq; clear hq
        go_wp2
        go_roundg 1
        case measure => omega
        case rel => exact ⟨HL, .inr (.inl ⟨by go_num, rfl, HQ⟩)⟩
      | some n =>
        rw [hq, errW_some] at he; subst he; have HQ := Aside0.mk hq; clear hq
        have hk := blk_below HK.out HL.out; have r0 := (blk_cell hk 0).trans (show _ = some (Value.slice none 0 0) from rfl); have r1 := (blk_cell hk 1).trans (show _ = some (Value.slice none 0 0) from rfl); have f0 := blk_frozen hk 0; have f1 := blk_frozen hk 1; have HKW := Aside0.mk hk; clear hk
        go_wp2
        clear r0 r1 f0 f1
        have hz := HZ.out
        refine bodyPost_ret (results_ct rfl _ _ (w.heap.size + 1 + 1) 69 #[.slice none 0 0, .slice none 0 0] (0, 0) _ rfl (blk_put (cs := #[.slice none 0 0, .slice none 0 0]) (blk_put (cs := #[.slice none 0 0, .slice none 0 0]) HKW.out 0 _ rfl) 1 _ rfl) Try.underlying69 rfl (by kernel_rfl)) rfl ?_
        rw [show thenR l1 l2 l3 l4 = (([], []), some n) by unfold thenR; rw [HQ.out]]
        exact ⟨_, rfl, ⟨_, _, rfl, Kd.R_nil _ _ _ _ _, Kd.R_nil _ _ _ _ _⟩, (by have h := HB0.out.trans (HL.out.mono HG.out); exact below_set (below_set h (by omega)) (by omega))⟩
    · have z0 := (Box.keep (Below.refl _ _) HL.out BS.out) 2 (.slice A3 l3.length c3) rfl; have z1 := (Box.keep (Below.refl _ _) HL.out BS.out) 3 (.slice A4 l4.length c4) rfl
      go_wp2_with (first | (go_at_call 33; refine stop_ ?_) | (go_at_call 49; refine stop_ ?_))
      refine ⟨?_⟩
      clear z0 z1
      refine Calls.mono (HC34.out _ (Kd.C_below HR3.out (by repeat (first | exact HL.out | refine below_alloc ?_ _ | refine pw_below_drewN ?_ _ | refine below_drew1 ?_ | refine below_set ?_ HG2.out))) (Kd.C_below HR4.out (by repeat (first | exact HL.out | refine below_alloc ?_ _ | refine pw_below_drewN ?_ _ | refine below_drew1 ?_ | refine below_set ?_ HG2.out)))) ?_
      rintro e w' ⟨he, hb⟩
      have HLn := Aside0.mk (below_step (show Below W0.heap.size W0 _ from (by repeat (first | exact HL.out | refine below_alloc ?_ _ | refine pw_below_drewN ?_ _ | refine below_drew1 ?_ | refine below_set ?_ HG2.out))) hb); clear HL hb; have HL := HLn; clear HLn
      cases hq : layErr l3 l4 with
      | none =>
        rw [hq, errW_none] at he; subst he; have HQ := Aside0.mk hq; clear hq
        go_wp2
        go_roundg 0
        case measure => omega
        case rel => exact ⟨HL, .inr (.inr ⟨by go_num, rfl, ⟨HN.out, HQ.out⟩⟩)⟩
      | some n =>
        rw [hq, errW_some] at he; subst he; have HQ := Aside0.mk hq; clear hq
        have hk := blk_below HK.out HL.out; have r0 := (blk_cell hk 0).trans (show _ = some (Value.slice none 0 0) from rfl); have r1 := (blk_cell hk 1).trans (show _ = some (Value.slice none 0 0) from rfl); have f0 := blk_frozen hk 0; have f1 := blk_frozen hk 1; have HKW := Aside0.mk hk; clear hk
        go_wp2
        clear r0 r1 f0 f1
        have hz := HZ.out
        refine bodyPost_ret (results_ct rfl _ _ (w.heap.size + 1 + 1) 69 #[.slice none 0 0, .slice none 0 0] (0, 0) _ rfl (blk_put (cs := #[.slice none 0 0, .slice none 0 0]) (blk_put (cs := #[.slice none 0 0, .slice none 0 0]) HKW.out 0 _ rfl) 1 _ rfl) Try.underlying69 rfl (by kernel_rfl)) rfl ?_
        rw [show thenR l1 l2 l3 l4 = (([], []), some n) by unfold thenR; rw [HN.out, HQ.out]]
        exact ⟨_, rfl, ⟨_, _, rfl, Kd.R_nil _ _ _ _ _, Kd.R_nil _ _ _ _ _⟩, (by have h := HB0.out.trans (HL.out.mono HG.out); exact below_set (below_set h (by omega)) (by omega))⟩
    · obtain ⟨q1, q2⟩ := HN.out
      clear HN
      obtain ⟨s1, s2, _⟩ := lay_none q1; obtain ⟨s3, s4, _⟩ := lay_none q2
      have n1 := sortedR_len s1
      have n2 := sortedR_len s2
      have n3 := sortedR_len s3
      have n4 := sortedR_len s4
      have pa := fun W hi hj => part_R A1 c1 l1 A3 c3 l3 true W hi HN1.out hj HN3.out (by omega) s3
      have pb := fun W hi hj => part_R A2 c2 l2 A4 c4 l4 true W hi HN2.out hj HN4.out (by omega) s4
      have p1 := fun W hi hj => part_R A1 c1 l1 A4 c4 l4 false W hi HN1.out hj HN4.out (by omega) s4
      have p2 := fun W hi hj => part_R A3 c3 l3 A2 c2 l2 false W hi HN3.out hj HN2.out (by omega) s2
      have p3 := fun W hi hj => part_R A2 c2 l2 A3 c3 l3 false W hi HN2.out hj HN3.out (by omega) s3
      have p4 := fun W hi hj => part_R A4 c4 l4 A1 c1 l1 false W hi HN4.out hj HN1.out (by omega) s1
      have m14 : (partR l1 l4 false).length ≤ l1.length := List.length_filter_le _ _
      have m32 : (partR l3 l2 false).length ≤ l3.length := List.length_filter_le _ _
      have m23 : (partR l2 l3 false).length ≤ l2.length := List.length_filter_le _ _
      have m41 : (partR l4 l1 false).length ≤ l4.length := List.length_filter_le _ _
      have u1 := fun W A c A' c' h1 h2 h3 h4 => union_R A c (partR l1 l4 false) A' c' (partR l3 l2 false) W h1 h2 h3 h4 (by omega)
      have u2 := fun W A c A' c' h1 h2 h3 h4 => union_R A c (partR l2 l3 false) A' c' (partR l4 l1 false) W h1 h2 h3 h4 (by omega)
      have hth : thenR l1 l2 l3 l4 = if (partR l1 l3 true).length > 0 ∨ (partR l2 l4 true).length > 0 then (([], []), some 7) else if (unionR (partR l1 l4 false) (partR l3 l2 false)).length > 200 ∨ (unionR (partR l2 l3 false) (partR l4 l1 false)).length > 200 then (([], []), some 4) else ((unionR (partR l1 l4 false) (partR l3 l2 false), unionR (partR l2 l3 false) (partR l4 l1 false)), none) := by unfold thenR; rw [q1, q2]
      clear q1 q2 s1 s2 s3 s4 n1 n2 n3 n4 m14 m32 m23 m41
      generalize partR l1 l3 true = P1 at pa hth
      generalize partR l2 l4 true = P2 at pb hth
      generalize partR l1 l4 false = X1 at p1 u1 hth
      generalize partR l3 l2 false = X2 at p2 u1 hth
      generalize partR l2 l3 false = Y1 at p3 u2 hth
      generalize partR l4 l1 false = Y2 at p4 u2 hth
      generalize unionR X1 X2 = XA at u1 hth; generalize unionR Y1 Y2 = YT at u2 hth; have HTH := Aside0.mk hth; clear hth
      have HPA := Aside0.mk pa; have HPB := Aside0.mk pb; have HP1 := Aside0.mk p1; have HP2 := Aside0.mk p2; have HP3 := Aside0.mk p3; have HP4 := Aside0.mk p4; have HU1 := Aside0.mk u1; have HU2 := Aside0.mk u2
      clear pa pb p1 p2 p3 p4 u1 u2
      have k1 := (Box.keep (Below.refl _ _) HL.out BA.out) 0 (.slice A1 l1.length c1) rfl
      have k2 := (Box.keep (Below.refl _ _) HL.out BA.out) 1 (.slice A2 l2.length c2) rfl
      have k3 := (Box.keep (Below.refl _ _) HL.out BB.out) 0 (.slice A3 l3.length c3) rfl
      have k4 := (Box.keep (Below.refl _ _) HL.out BB.out) 1 (.slice A4 l4.length c4) rfl
      go_wp2_with (first | (go_at_call 33; refine stop_ ?_) | (go_at_call 49; refine stop_ ?_))
      clear k1 k2 k3 k4
      refine ⟨?_⟩
      refine Calls.mono (HPA.out _ (Kd.C_below HR1.out (by repeat (first | exact HL.out | refine below_alloc ?_ _ | refine pw_below_drewN ?_ _ | refine below_drew1 ?_ | refine below_set ?_ HG2.out))) (Kd.C_below HR3.out (by repeat (first | exact HL.out | refine below_alloc ?_ _ | refine pw_below_drewN ?_ _ | refine below_drew1 ?_ | refine below_set ?_ HG2.out)))) ?_
      rintro e w' ⟨v, rfl, hv, hb⟩
      have HLn := Aside0.mk (below_step (show Below W0.heap.size W0 _ from (by repeat (first | exact HL.out | refine below_alloc ?_ _ | refine pw_below_drewN ?_ _ | refine below_drew1 ?_ | refine below_set ?_ HG2.out))) hb); clear HL hb; have HL := HLn; clear HLn
      obtain ⟨Ap, cp, ep⟩ := Kd.R_slice hv
      subst ep
      clear hv
      by_cases hp : P1.length > 0
      · have HC := Aside0.mk hp
        have hpz : (P1.length : Int) > 0 := by omega
        have hpy : 0 < P1.length := hp
        clear hp
        have hk := blk_below HK.out HL.out; have r0 := (blk_cell hk 0).trans (show _ = some (Value.slice none 0 0) from rfl); have r1 := (blk_cell hk 1).trans (show _ = some (Value.slice none 0 0) from rfl); have f0 := blk_frozen hk 0; have f1 := blk_frozen hk 1; have HKW := Aside0.mk hk; clear hk
        go_wp2_with (first | (go_at_call 33; refine stop_ ?_) | (go_at_call 49; refine stop_ ?_))
        clear r0 r1 f0 f1
        have hz := HZ.out
        refine bodyPost_ret (results_ct rfl _ _ (w.heap.size + 1 + 1) 69 #[.slice none 0 0, .slice none 0 0] (0, 0) _ rfl (blk_put (cs := #[.slice none 0 0, .slice none 0 0]) (blk_put (cs := #[.slice none 0 0, .slice none 0 0]) HKW.out 0 _ rfl) 1 _ rfl) Try.underlying69 rfl (by kernel_rfl)) rfl ?_
        rw [HTH.out, if_pos (.inl HC.out)]
        exact ⟨_, rfl, ⟨_, _, rfl, Kd.R_nil _ _ _ _ _, Kd.R_nil _ _ _ _ _⟩, (by have h := HB0.out.trans (HL.out.mono HG.out); exact below_set (below_set h (by omega)) (by omega))⟩
      · obtain rfl : P1 = [] := List.eq_nil_of_length_eq_zero (by omega)
        clear hp
        have k1 := (Box.keep (Below.refl _ _) HL.out BA.out) 0 (.slice A1 l1.length c1) rfl
        have k2 := (Box.keep (Below.refl _ _) HL.out BA.out) 1 (.slice A2 l2.length c2) rfl
        have k3 := (Box.keep (Below.refl _ _) HL.out BB.out) 0 (.slice A3 l3.length c3) rfl
        have k4 := (Box.keep (Below.refl _ _) HL.out BB.out) 1 (.slice A4 l4.length c4) rfl
        go_wp2_with (first | (go_at_call 33; refine stop_ ?_) | (go_at_call 49; refine stop_ ?_))
        clear k1 k2 k3 k4
        refine ⟨?_⟩
        refine Calls.mono (HPB.out _ (Kd.C_below HR2.out (by repeat (first | exact HL.out | refine below_alloc ?_ _ | refine pw_below_drewN ?_ _ | refine below_drew1 ?_ | refine below_set ?_ HG2.out))) (Kd.C_below HR4.out (by repeat (first | exact HL.out | refine below_alloc ?_ _ | refine pw_below_drewN ?_ _ | refine below_drew1 ?_ | refine below_set ?_ HG2.out)))) ?_
        rintro e w' ⟨v, rfl, hv, hb⟩
        have HLn := Aside0.mk (below_step (show Below W0.heap.size W0 _ from (by repeat (first | exact HL.out | refine below_alloc ?_ _ | refine pw_below_drewN ?_ _ | refine below_drew1 ?_ | refine below_set ?_ HG2.out))) hb); clear HL hb; have HL := HLn; clear HLn
        obtain ⟨Aq, cq, eq_⟩ := Kd.R_slice hv
        subst eq_
        clear hv
        by_cases hq : P2.length > 0
        · have HC := Aside0.mk hq
          have hqz : (P2.length : Int) > 0 := by omega
          have hqy : 0 < P2.length := hq
          clear hq
          have hk := blk_below HK.out HL.out; have r0 := (blk_cell hk 0).trans (show _ = some (Value.slice none 0 0) from rfl); have r1 := (blk_cell hk 1).trans (show _ = some (Value.slice none 0 0) from rfl); have f0 := blk_frozen hk 0; have f1 := blk_frozen hk 1; have HKW := Aside0.mk hk; clear hk
          go_wp2_with (first | (go_at_call 33; refine stop_ ?_) | (go_at_call 49; refine stop_ ?_))
          clear r0 r1 f0 f1
          have hz := HZ.out
          refine bodyPost_ret (results_ct rfl _ _ (w.heap.size + 1 + 1) 69 #[.slice none 0 0, .slice none 0 0] (0, 0) _ rfl (blk_put (cs := #[.slice none 0 0, .slice none 0 0]) (blk_put (cs := #[.slice none 0 0, .slice none 0 0]) HKW.out 0 _ rfl) 1 _ rfl) Try.underlying69 rfl (by kernel_rfl)) rfl ?_
          rw [HTH.out, if_pos (.inr HC.out)]
          exact ⟨_, rfl, ⟨_, _, rfl, Kd.R_nil _ _ _ _ _, Kd.R_nil _ _ _ _ _⟩, (by have h := HB0.out.trans (HL.out.mono HG.out); exact below_set (below_set h (by omega)) (by omega))⟩
        · obtain rfl : P2 = [] := List.eq_nil_of_length_eq_zero (by omega)
          clear hq
          have hth := HTH.out; rw [if_neg (by simp)] at hth; clear HTH; have HTH := Aside0.mk hth; clear hth
          go_wp2_with (first | (go_at_call 33; refine stop_ ?_) | (go_at_call 49; refine stop_ ?_))
          have k1 := (Box.keep (Below.refl _ _) HL.out BA.out) 0 (.slice A1 l1.length c1) rfl
          have k2 := (Box.keep (Below.refl _ _) HL.out BA.out) 1 (.slice A2 l2.length c2) rfl
          have k3 := (Box.keep (Below.refl _ _) HL.out BB.out) 0 (.slice A3 l3.length c3) rfl
          have k4 := (Box.keep (Below.refl _ _) HL.out BB.out) 1 (.slice A4 l4.length c4) rfl
          refine then_region _ _ w w.heap.size w.heap.size A1 c1 l1 A2 c2 l2 A3 c3 l3 A4 c4 l4 X1 X2 XA Y1 Y2 YT _ rfl rfl rfl (by have h := HB0.out.size; have h2 := HL.out.size; omega) (Kd.C_below HR1.out HL.out) HN1.out (Kd.C_below HR2.out HL.out) HN2.out (Kd.C_below HR3.out HL.out) HN3.out (Kd.C_below HR4.out HL.out) HN4.out k1 k2 k3 k4 (fun W h1 h2 => HP1.out W h1 h2) (fun W h1 h2 => HP2.out W h1 h2) (fun W A c A' c' h1 h2 h3 h4 => HU1.out W A c A' c' h1 h2 h3 h4) (fun W h1 h2 => HP3.out W h1 h2) (fun W h1 h2 => HP4.out W h1 h2) (fun W A c A' c' h1 h2 h3 h4 => HU2.out W A c A' c' h1 h2 h3 h4) ?_
          clear k1 k2 k3 k4
          intro x w9 b Au cu Av cv hJ _ e10 e21 d10 d21 x23 hWb hbk
          have HLn := Aside0.mk (below_step HL.out hJ); have HGB := Aside0.mk (Nat.le_trans HL.out.size hWb); clear HL hJ hWb; have HL := HLn; clear HLn
          have c0 := (blk_cell hbk 0).trans (show _ = some (x 10) from rfl); have c1' := (blk_cell hbk 1).trans (show _ = some (x 21) from rfl)
          rw [e10] at c0 d10; rw [e21] at c1' d21; rw [e10, e21] at hbk
          have HD10 := Aside0.mk d10; have HD21 := Aside0.mk d21; have HBK := Aside0.mk hbk; clear d10 d21 hbk
          simp only [thenOps, putAll, e10, e21, x23]
          clear e10 e21 x23
          by_cases hA : XA.length > 200
          · have HC := Aside0.mk hA
            have hAz : (XA.length : Int) > 200 := by omega
            clear hA
            have hk := blk_below HK.out HL.out; have r0 := (blk_cell hk 0).trans (show _ = some (Value.slice none 0 0) from rfl); have r1 := (blk_cell hk 1).trans (show _ = some (Value.slice none 0 0) from rfl); have f0 := blk_frozen hk 0; have f1 := blk_frozen hk 1; have HKW := Aside0.mk hk; clear hk
            go_wp2
            clear r0 r1 f0 f1
            have hz := HZ.out
            refine bodyPost_ret (results_ct rfl _ _ (w.heap.size + 1 + 1) 69 #[.slice none 0 0, .slice none 0 0] (0, 0) _ rfl (blk_put (cs := #[.slice none 0 0, .slice none 0 0]) (blk_put (cs := #[.slice none 0 0, .slice none 0 0]) HKW.out 0 _ rfl) 1 _ rfl) Try.underlying69 rfl (by kernel_rfl)) rfl ?_
            rw [HTH.out, if_pos (.inl HC.out)]
            exact ⟨_, rfl, ⟨_, _, rfl, Kd.R_nil _ _ _ _ _, Kd.R_nil _ _ _ _ _⟩, (by have h := HB0.out.trans (HL.out.mono HG.out); exact below_set (below_set h (by omega)) (by omega))⟩
          · by_cases hT : YT.length > 200
            · have HC := Aside0.mk hT
              have hAz : ¬ (XA.length : Int) > 200 := by omega
              have hTz : (YT.length : Int) > 200 := by omega
              clear hA hT
              have hk := blk_below HK.out HL.out; have r0 := (blk_cell hk 0).trans (show _ = some (Value.slice none 0 0) from rfl); have r1 := (blk_cell hk 1).trans (show _ = some (Value.slice none 0 0) from rfl); have f0 := blk_frozen hk 0; have f1 := blk_frozen hk 1; have HKW := Aside0.mk hk; clear hk
              go_wp2
              clear r0 r1 f0 f1
              have hz := HZ.out
              refine bodyPost_ret (results_ct rfl _ _ (w.heap.size + 1 + 1) 69 #[.slice none 0 0, .slice none 0 0] (0, 0) _ rfl (blk_put (cs := #[.slice none 0 0, .slice none 0 0]) (blk_put (cs := #[.slice none 0 0, .slice none 0 0]) HKW.out 0 _ rfl) 1 _ rfl) Try.underlying69 rfl (by kernel_rfl)) rfl ?_
              rw [HTH.out, if_pos (.inr HC.out)]
              exact ⟨_, rfl, ⟨_, _, rfl, Kd.R_nil _ _ _ _ _, Kd.R_nil _ _ _ _ _⟩, (by have h := HB0.out.trans (HL.out.mono HG.out); exact below_set (below_set h (by omega)) (by omega))⟩
            · have hth := HTH.out; rw [if_neg (by omega)] at hth; clear HTH; have HTH := Aside0.mk hth; clear hth
              have hAz : ¬ (XA.length : Int) > 200 := by omega
              have hTz : ¬ (YT.length : Int) > 200 := by omega
              clear hA hT
              have hk := blk_below HK.out HL.out; have r0 := (blk_cell hk 0).trans (show _ = some (Value.slice none 0 0) from rfl); have r1 := (blk_cell hk 1).trans (show _ = some (Value.slice none 0 0) from rfl); have f0 := blk_frozen hk 0; have f1 := blk_frozen hk 1; have HKW := Aside0.mk hk; clear hk
              go_wp2
              clear r0 r1 f0 f1
              have hz := HZ.out
              refine bodyPost_ret (results_ct rfl _ _ (w.heap.size + 1 + 1) 69 #[.slice Au XA.length cu, .slice Av YT.length cv] (0, 0) _ rfl (blk_put (cs := #[.slice Au XA.length cu, .slice none 0 0]) (blk_put (cs := #[.slice none 0 0, .slice none 0 0]) HKW.out 0 _ rfl) 1 _ rfl) Try.underlying69 rfl (by kernel_rfl)) rfl ?_
              rw [HTH.out]
              exact ⟨_, rfl, ⟨_, _, rfl, Kd.R_set (Kd.R_set HD10.out HKW.out (by decide) 0 _) (blk_put HKW.out 0 _ rfl) (by decide) 1 _, Kd.R_set (Kd.R_set HD21.out HKW.out (by decide) 0 _) (blk_put HKW.out 0 _ rfl) (by decide) 1 _⟩, (by have h := HB0.out.trans (HL.out.mono HG.out); exact below_set (below_set h (by omega)) (by omega))⟩
end Go.Proofs.Ytdjamphmndbmjaa.M

/- stratasame.Layer, and the contracts of package layer by outcome (printed by wip/gen_lay6.py). -/
namespace Go.Proofs.Ytdjamphmndbmjaa.M
open Go.RowKit Go.Proofs.YtdjamphmndbmjaaW.PrintWords Go.Proofs.YtdjamphmndbmjaaW.PrintLast Go.Proofs.YtdjamphmndbmjaaW.PrintMore
set_option linter.unusedVariables false
set_option linter.unusedSimpArgs false

theorem post_below {x : Bool} {W : World} (e : Ending) (w' : World) (h : e = .returned (.bool x) ∧ ∃ q, w' = W.drewN q) : e = .returned (.bool x) ∧ Below W.heap.size W w' := by
  obtain ⟨he, q, hq⟩ := h
  exact ⟨he, by rw [hq]; exact pw_below_drewN (Below.refl _ _) q⟩
set_option maxHeartbeats 4000000 in
set_option maxRecDepth 100000 in
theorem sameL_calls (A1 : Option Addr) (c1 : Nat) (l1 : List S41) (A2 : Option Addr) (c2 : Nat) (l2 : List S41) (A3 : Option Addr) (c3 : Nat) (l3 : List S41) (A4 : Option Addr) (c4 : Nat) (l4 : List S41) (w : World) (hr1 : Kd.C k41 w A1 l1.length l1) (hr2 : Kd.C k41 w A2 l2.length l2) (hr3 : Kd.C k41 w A3 l3.length l3) (hr4 : Kd.C k41 w A4 l4.length l4) :
    Calls Try.prog 35 #[.agg #[.slice A1 l1.length c1, .slice A2 l2.length c2], .agg #[.slice A3 l3.length c3, .slice A4 l4.length c4]] w fun e w' => e = .returned (.bool (decide (l1 = l3) && decide (l2 = l4))) ∧ Below w.heap.size w w' := by
  obtain ⟨W0, hW0⟩ : ∃ W0, W0 = ((w.alloc (.cells #[.slice A1 l1.length c1, .slice A2 l2.length c2] 69)).alloc (.cells #[.slice A3 l3.length c3, .slice A4 l4.length c4] 69)) := ⟨_, rfl⟩
  have HR1 : Aside0 (Kd.C k41 W0 A1 l1.length l1) := ⟨by rw [hW0]; exact Kd.C_alloc (Kd.C_alloc hr1 _) _⟩
  have HR2 : Aside0 (Kd.C k41 W0 A2 l2.length l2) := ⟨by rw [hW0]; exact Kd.C_alloc (Kd.C_alloc hr2 _) _⟩
  have HR3 : Aside0 (Kd.C k41 W0 A3 l3.length l3) := ⟨by rw [hW0]; exact Kd.C_alloc (Kd.C_alloc hr3 _) _⟩
  have HR4 : Aside0 (Kd.C k41 W0 A4 l4.length l4) := ⟨by rw [hW0]; exact Kd.C_alloc (Kd.C_alloc hr4 _) _⟩
  have HB0 : Aside0 (Below w.heap.size w W0) := ⟨by rw [hW0]; exact below_alloc (below_alloc (Below.refl _ _) _) _⟩
  have BA : Aside0 (Box W0 w.heap.size #[.slice A1 l1.length c1, .slice A2 l2.length c2]) := ⟨by rw [hW0]; exact fun c v h => cell?_alloc_old' (Box.new w _ _ c v h) _⟩
  have BB : Aside0 (Box W0 (w.heap.size + 1) #[.slice A3 l3.length c3, .slice A4 l4.length c4]) := ⟨by rw [hW0]; exact fun c v h => (by have q := Box.new (w.alloc (.cells #[.slice A1 l1.length c1, .slice A2 l2.length c2] 69)) #[.slice A3 l3.length c3, .slice A4 l4.length c4] 69 c v h; rw [alloc_size1] at q; exact q)⟩
  have hx := fun W (h1 : Kd.C k41 W A1 l1.length l1) (h3 : Kd.C k41 W A3 l3.length l3) => (same_calls A1 A3 c1 c3 l1 l3 W h1 h3).mono (post_below (x := decide (l1 = l3)))
  have hy := fun W (h2 : Kd.C k41 W A2 l2.length l2) (h4 : Kd.C k41 W A4 l4.length l4) => (same_calls A2 A4 c2 c4 l2 l4 W h2 h4).mono (post_below (x := decide (l2 = l4)))
  generalize decide (l1 = l3) = p at hx ⊢; generalize decide (l2 = l4) = q at hy ⊢
  have HX := Aside0.mk hx; have HY := Aside0.mk hy; have HW0 := Aside0.mk hW0; clear hx hy hr1 hr2 hr3 hr4
  have hs0 : Below W0.heap.size W0 ((w.alloc (.cells #[.slice A1 l1.length c1, .slice A2 l2.length c2] 69)).alloc (.cells #[.slice A3 l3.length c3, .slice A4 l4.length c4] 69)) := by rw [hW0]; exact Below.refl _ _
  have HL := Aside0.mk hs0; clear hs0 hW0
  cases p <;> cases q <;>
  · go_enter Try.func35, Try.ntmps35
    go_wp2_with (go_at_call 20; refine stop_ ?_)
    refine ⟨?_⟩
    refine Calls.mono (HX.out _ (Kd.C_below HR1.out HL.out) (Kd.C_below HR3.out HL.out)) ?_
    rintro e w' ⟨rfl, hb⟩
    have HLn := Aside0.mk (below_step HL.out hb); clear HL hb; have HL := HLn; clear HLn
    have k2 := (Box.keep (Below.refl _ _) HL.out BA.out) 1 (.slice A2 l2.length c2) rfl; have k4 := (Box.keep (Below.refl _ _) HL.out BB.out) 1 (.slice A4 l4.length c4) rfl
    go_wp2_with (go_at_call 20; refine stop_ ?_)
    clear k2 k4
    refine ⟨?_⟩
    refine Calls.mono (HY.out _ (Kd.C_below HR2.out HL.out) (Kd.C_below HR4.out HL.out)) ?_
    rintro e w' ⟨rfl, hb⟩
    have HLn := Aside0.mk (below_step HL.out hb); clear HL hb; have HL := HLn; clear HLn
    go_wp2_with (go_at_call 20; refine stop_ ?_)
    go_ret
    exact ⟨rfl, HB0.out.trans (HL.out.mono HB0.out.size)⟩
theorem between_ok {l0 : List S41} {l1 : List S41} {u v : List S41} (h : betwR l0 l1 = ((u, v), none)) (A0 : Option Addr) (c0 : Nat) (A1 : Option Addr) (c1 : Nat) (w : World) (hr0 : Kd.C k41 w A0 l0.length l0) (hc0 : l0.length ≤ c0) (hr1 : Kd.C k41 w A1 l1.length l1) (hc1 : l1.length ≤ c1) :
    Calls Try.prog 30 #[.slice A0 l0.length c0, .slice A1 l1.length c1] w fun e w' => ∃ x, e = .returned (.tuple #[x, .nilIface]) ∧ LRow w' w.heap.size x u v ∧ Below w.heap.size w w' := by
  have hc := betw_calls A0 c0 l0 A1 c1 l1 w hr0 hc0 hr1 hc1
  rw [h] at hc
  exact hc
theorem between_err {l0 : List S41} {l1 : List S41} {u v : List S41} {n : Int} (h : betwR l0 l1 = ((u, v), some n)) (A0 : Option Addr) (c0 : Nat) (A1 : Option Addr) (c1 : Nat) (w : World) (hr0 : Kd.C k41 w A0 l0.length l0) (hc0 : l0.length ≤ c0) (hr1 : Kd.C k41 w A1 l1.length l1) (hc1 : l1.length ≤ c1) :
    Calls Try.prog 30 #[.slice A0 l0.length c0, .slice A1 l1.length c1] w fun e w' => ∃ x, e = .returned (.tuple #[x, (.iface 23 (.int .i64 n))]) ∧ LRow w' w.heap.size x u v ∧ Below w.heap.size w w' := by
  have hc := betw_calls A0 c0 l0 A1 c1 l1 w hr0 hc0 hr1 hc1
  rw [h] at hc
  exact hc
theorem lcheck_ok {l0 : List S41} {l1 : List S41}  (h : layErr l0 l1 = none) (A0 : Option Addr) (c0 : Nat) (A1 : Option Addr) (c1 : Nat) (w : World) (hr0 : Kd.C k41 w A0 l0.length l0) (hc0 : l0.length ≤ c0) (hr1 : Kd.C k41 w A1 l1.length l1) (hc1 : l1.length ≤ c1) :
    Calls Try.prog 33 #[.agg #[.slice A0 l0.length c0, .slice A1 l1.length c1]] w fun e w' => e = .returned .nilIface ∧ Below w.heap.size w w' := by
  have hc := lcheck_calls A0 c0 l0 A1 c1 l1 w hr0 hc0 hr1 hc1
  rw [h] at hc
  exact hc
theorem lcheck_err {l0 : List S41} {l1 : List S41}  {n : Int} (h : layErr l0 l1 = some n) (A0 : Option Addr) (c0 : Nat) (A1 : Option Addr) (c1 : Nat) (w : World) (hr0 : Kd.C k41 w A0 l0.length l0) (hc0 : l0.length ≤ c0) (hr1 : Kd.C k41 w A1 l1.length l1) (hc1 : l1.length ≤ c1) :
    Calls Try.prog 33 #[.agg #[.slice A0 l0.length c0, .slice A1 l1.length c1]] w fun e w' => e = .returned (.iface 23 (.int .i64 n)) ∧ Below w.heap.size w w' := by
  have hc := lcheck_calls A0 c0 l0 A1 c1 l1 w hr0 hc0 hr1 hc1
  rw [h] at hc
  exact hc
theorem apply_ok {l0 : List S41} {l1 : List S41} {l2 : List S41} {u : List S41} (h : applyR l0 l1 l2 = (u, none)) (A0 : Option Addr) (c0 : Nat) (A1 : Option Addr) (c1 : Nat) (A2 : Option Addr) (c2 : Nat) (w : World) (hr0 : Kd.C k41 w A0 l0.length l0) (hc0 : l0.length ≤ c0) (hr1 : Kd.C k41 w A1 l1.length l1) (hc1 : l1.length ≤ c1) (hr2 : Kd.C k41 w A2 l2.length l2) (hc2 : l2.length ≤ c2) :
    Calls Try.prog 31 #[.slice A0 l0.length c0, .agg #[.slice A1 l1.length c1, .slice A2 l2.length c2]] w fun e w' => ∃ x, e = .returned (.tuple #[x, .nilIface]) ∧ Kd.R k41 41 w' w.heap.size (fun _ => True) x u ∧ Below w.heap.size w w' := by
  have hc := apply_calls A0 c0 l0 A1 c1 l1 A2 c2 l2 w hr0 hc0 hr1 hc1 hr2 hc2
  rw [h] at hc
  exact hc
theorem apply_err {l0 : List S41} {l1 : List S41} {l2 : List S41} {u : List S41} {n : Int} (h : applyR l0 l1 l2 = (u, some n)) (A0 : Option Addr) (c0 : Nat) (A1 : Option Addr) (c1 : Nat) (A2 : Option Addr) (c2 : Nat) (w : World) (hr0 : Kd.C k41 w A0 l0.length l0) (hc0 : l0.length ≤ c0) (hr1 : Kd.C k41 w A1 l1.length l1) (hc1 : l1.length ≤ c1) (hr2 : Kd.C k41 w A2 l2.length l2) (hc2 : l2.length ≤ c2) :
    Calls Try.prog 31 #[.slice A0 l0.length c0, .agg #[.slice A1 l1.length c1, .slice A2 l2.length c2]] w fun e w' => ∃ x, e = .returned (.tuple #[x, (.iface 23 (.int .i64 n))]) ∧ Kd.R k41 41 w' w.heap.size (fun _ => True) x u ∧ Below w.heap.size w w' := by
  have hc := apply_calls A0 c0 l0 A1 c1 l1 A2 c2 l2 w hr0 hc0 hr1 hc1 hr2 hc2
  rw [h] at hc
  exact hc
theorem then_ok {l1 : List S41} {l2 : List S41} {l3 : List S41} {l4 : List S41} {u v : List S41} (h : thenR l1 l2 l3 l4 = ((u, v), none)) (A1 : Option Addr) (c1 : Nat) (A2 : Option Addr) (c2 : Nat) (A3 : Option Addr) (c3 : Nat) (A4 : Option Addr) (c4 : Nat) (w : World) (hr1 : Kd.C k41 w A1 l1.length l1) (hc1 : l1.length ≤ c1) (hr2 : Kd.C k41 w A2 l2.length l2) (hc2 : l2.length ≤ c2) (hr3 : Kd.C k41 w A3 l3.length l3) (hc3 : l3.length ≤ c3) (hr4 : Kd.C k41 w A4 l4.length l4) (hc4 : l4.length ≤ c4) :
    Calls Try.prog 34 #[.agg #[.slice A1 l1.length c1, .slice A2 l2.length c2], .agg #[.slice A3 l3.length c3, .slice A4 l4.length c4]] w fun e w' => ∃ x, e = .returned (.tuple #[x, .nilIface]) ∧ LRow w' w.heap.size x u v ∧ Below w.heap.size w w' := by
  have hc := then_calls A1 c1 l1 A2 c2 l2 A3 c3 l3 A4 c4 l4 w hr1 hc1 hr2 hc2 hr3 hc3 hr4 hc4
  rw [h] at hc
  exact hc
theorem then_err {l1 : List S41} {l2 : List S41} {l3 : List S41} {l4 : List S41} {u v : List S41} {n : Int} (h : thenR l1 l2 l3 l4 = ((u, v), some n)) (A1 : Option Addr) (c1 : Nat) (A2 : Option Addr) (c2 : Nat) (A3 : Option Addr) (c3 : Nat) (A4 : Option Addr) (c4 : Nat) (w : World) (hr1 : Kd.C k41 w A1 l1.length l1) (hc1 : l1.length ≤ c1) (hr2 : Kd.C k41 w A2 l2.length l2) (hc2 : l2.length ≤ c2) (hr3 : Kd.C k41 w A3 l3.length l3) (hc3 : l3.length ≤ c3) (hr4 : Kd.C k41 w A4 l4.length l4) (hc4 : l4.length ≤ c4) :
    Calls Try.prog 34 #[.agg #[.slice A1 l1.length c1, .slice A2 l2.length c2], .agg #[.slice A3 l3.length c3, .slice A4 l4.length c4]] w fun e w' => ∃ x, e = .returned (.tuple #[x, (.iface 23 (.int .i64 n))]) ∧ LRow w' w.heap.size x u v ∧ Below w.heap.size w w' := by
  have hc := then_calls A1 c1 l1 A2 c2 l2 A3 c3 l3 A4 c4 l4 w hr1 hc1 hr2 hc2 hr3 hc3 hr4 hc4
  rw [h] at hc
  exact hc
theorem turn_ok {l1 : List S41} {l2 : List S41} (h : layErr l1 l2 = none) (A1 : Option Addr) (c1 : Nat) (A2 : Option Addr) (c2 : Nat) (w : World) (hr1 : Kd.C k41 w A1 l1.length l1) (hc1 : l1.length ≤ c1) (hr2 : Kd.C k41 w A2 l2.length l2) (hc2 : l2.length ≤ c2) :
    Calls Try.prog 32 #[.agg #[.slice A1 l1.length c1, .slice A2 l2.length c2]] w fun e w' => ∃ x, e = .returned (.tuple #[x, .nilIface]) ∧ LRow w' w.heap.size x l2 l1 ∧ Below w.heap.size w w' := by
  have hc := turn_calls A1 c1 l1 A2 c2 l2 w hr1 hc1 hr2 hc2
  rw [h, if_pos rfl, if_pos rfl] at hc
  exact hc
theorem sameL_true {l1 : List S41} {l2 : List S41} {l3 : List S41} {l4 : List S41} (h : l1 = l3) (h' : l2 = l4) (A1 : Option Addr) (c1 : Nat) (A2 : Option Addr) (c2 : Nat) (A3 : Option Addr) (c3 : Nat) (A4 : Option Addr) (c4 : Nat) (w : World) (hr1 : Kd.C k41 w A1 l1.length l1) (hr2 : Kd.C k41 w A2 l2.length l2) (hr3 : Kd.C k41 w A3 l3.length l3) (hr4 : Kd.C k41 w A4 l4.length l4) :
    Calls Try.prog 35 #[.agg #[.slice A1 l1.length c1, .slice A2 l2.length c2], .agg #[.slice A3 l3.length c3, .slice A4 l4.length c4]] w fun e w' => e = .returned (.bool true) ∧ Below w.heap.size w w' := by
  have hc := sameL_calls A1 c1 l1 A2 c2 l2 A3 c3 l3 A4 c4 l4 w hr1 hr2 hr3 hr4
  rw [decide_eq_true h, decide_eq_true h'] at hc
  exact hc
theorem betw_xabc : betwR [] [xabc] = (([xabc], []), none) := by
  rw [betw_ok sorted_nil (sorted_one chk_xabc)]
  rfl
theorem row_two (w : World) (o1 : Obj) : Kd.C k41 ((w.alloc o1).alloc (.cells (celR xabc) 41)) (some ⟨w.heap.size + 1, 0, none⟩) 1 [xabc] := by
  have h := row_one (w.alloc o1) xabc
  rw [alloc_size1] at h
  exact h
theorem LRow.rows {w : World} {base : Nat} {v : Value} {a t : List S41} (h : LRow w base v a t) : ∃ A c A' c', v = .agg #[.slice A a.length c, .slice A' t.length c'] ∧ Kd.C k41 w A a.length a ∧ a.length ≤ c ∧ Kd.C k41 w A' t.length t ∧ t.length ≤ c' := by
  obtain ⟨v1, v2, e, h1, h2⟩ := h
  obtain ⟨A, c, e1, C1, L1⟩ := Row.of_R h1
  obtain ⟨A', c', e2, C2, L2⟩ := Row.of_R h2
  exact ⟨A, c, A', c', by rw [e, e1, e2], C1, L1, C2, L2⟩
end Go.Proofs.Ytdjamphmndbmjaa.M

/- A chain in memory and in plain words: what there is behind each of its layers. -/
namespace Go.Proofs.Ytdjamphmndbmjaa.M
open Go.RowKit Go.Proofs.YtdjamphmndbmjaaW.PrintWords Go.Proofs.YtdjamphmndbmjaaW.PrintLast Go.Proofs.YtdjamphmndbmjaaW.PrintMore
set_option linter.unusedVariables false
set_option linter.unusedSimpArgs false

def stepR (s : List S41) (l : S69) : List S41 := unionR (partR s l.f1 false) l.f0
def graphR (bot : List S41) (lays : List S69) : List S41 := lays.foldl stepR bot
/-- Every layer may be laid on what there is behind those below it. -/
def GOk (bot : List S41) (lays : List S69) : Prop := ∀ i (h : i < lays.length), (graphR bot (lays.take i)).length ≤ 200 ∧ sortedR lays[i].f1 = none ∧ lays[i].f0.length ≤ 200
/-- A chain: its block, its bottom, its layers. -/
def Chn (w : World) (g base : Nat) (bot : List S41) (lays : List S69) : Prop :=
  ∃ vb vl, w.heap[g]? = some (.cells #[vb, vl] 116 (0, 0)) ∧ base ≤ g ∧ Kd.R k41 41 w base (fun _ => True) vb bot ∧ Kd.R k69 69 w base (fun _ => True) vl lays
theorem Chn.below {w w' : World} {g base : Nat} {bot : List S41} {lays : List S69} (h : Chn w g base bot lays) (hb : Below w.heap.size w w') : Chn w' g base bot lays := by
  obtain ⟨vb, vl, h1, h2, h3, h4⟩ := h
  exact ⟨vb, vl, blk_below h1 hb, h2, Kd.R_below h3 hb, Kd.R_below h4 hb⟩
theorem Chn.lower {w : World} {g base base' : Nat} {bot : List S41} {lays : List S69} (h : Chn w g base bot lays) (hb : base' ≤ base) : Chn w g base' bot lays := by
  obtain ⟨vb, vl, h1, h2, h3, h4⟩ := h
  exact ⟨vb, vl, h1, Nat.le_trans hb h2, Kd.R_lower h3 hb, Kd.R_lower h4 hb⟩
theorem graphR_snoc (bot : List S41) (lays : List S69) (k : Nat) (h : k < lays.length) : graphR bot (lays.take (k + 1)) = stepR (graphR bot (lays.take k)) lays[k] := by
  unfold graphR
  rw [List.take_succ_eq_append_getElem h, List.foldl_append]
  rfl
theorem rd_lay (lays : List S69) (k : Nat) (h : k < lays.length) : rd_T69 lays (k : Int) = lays[k] := by
  simp [rd_T69, List.getD_eq_getElem?_getD, h]
theorem part_le (a b : List S41) (is : Bool) : (partR a b is).length ≤ a.length := List.length_filter_le _ _
end Go.Proofs.Ytdjamphmndbmjaa.M

/- Package chain: New, Len, own, graph (printed by wip/gen_ch1.py). -/
namespace Go.Proofs.Ytdjamphmndbmjaa.M
open Go.RowKit Go.Proofs.YtdjamphmndbmjaaW.PrintWords Go.Proofs.YtdjamphmndbmjaaW.PrintLast Go.Proofs.YtdjamphmndbmjaaW.PrintMore
set_option linter.unusedVariables false
set_option linter.unusedSimpArgs false

set_option maxHeartbeats 4000000 in
set_option maxRecDepth 100000 in
theorem new_calls (A0 : Option Addr) (c0 : Nat) (l0 : List S41) (w : World) (hr0 : Kd.C k41 w A0 l0.length l0) (hc0 : l0.length ≤ c0) :
    Calls Try.prog 36 #[.slice A0 l0.length c0] w fun e w' => (∀ n, sortedR l0 = some n → e = .returned (.tuple #[.pointer none, .iface 23 (.int .i64 n)])) ∧ (sortedR l0 = none → ∃ g, e = .returned (.tuple #[.pointer (some ⟨g, 0, none⟩), .nilIface]) ∧ w.heap.size ≤ g ∧ Chn w' g w.heap.size l0 []) ∧ Below w.heap.size w w' := by
  have HR0 := Aside0.mk hr0; have HB := Aside0.mk (Below.refl w.heap.size w)
  have hright := fun W g0 h0 hC0 => right1_calls g0 A0 c0 l0 W h0 hC0 hc0
  cases hr : sortedR l0 with
  | some n =>
    rw [hr] at hright; have HRT := Aside0.mk hright; clear hr hright hr0
    go_enter Try.func36, Try.ntmps36
    go_wp2_with (go_at_call 47; refine (HRT.out _ _ (cells1 w A0 c0 _ _) (Kd.C_alloc HR0.out _)).mono ?_; rintro e w1 ⟨he, hb⟩; rw [errW_some] at he; subst he; have HB1 := Aside0.mk (below_step (below_alloc HB.out _) hb); clear HB hb; have HB := HB1; clear HB1)
    go_ret2
    exact ⟨(fun m hm => by first | (subst hm; rfl) | (injection hm with hm; subst hm; rfl) | simp_all), (fun h => by cases h), HB.out⟩
  | none =>
    rw [hr] at hright; have HRT := Aside0.mk hright
    have hcl := fun W (hC : Kd.C k41 W A0 l0.length l0) => clone_T.calls A0 c0 l0 l0 W hC hc0 (by unfold clone_T.f; rw [if_pos (by have := sortedR_len hr; omega)])
    have HCL := Aside0.mk hcl; clear hr hright hr0 hcl
    go_enter Try.func36, Try.ntmps36
    go_wp2_with (first | (go_at_call 47; refine (HRT.out _ _ (cells1 w A0 c0 _ _) (Kd.C_alloc HR0.out _)).mono ?_; rintro e w1 ⟨he, hb⟩; rw [errW_none] at he; subst he; have HB1 := Aside0.mk (below_step (below_alloc HB.out _) hb); clear HB hb; have HB := HB1; clear HB1) | (go_at_call 62; refine (HCL.out _ (Kd.C_below HR0.out (by repeat (first | exact HB.out | refine below_alloc ?_ _ | refine pw_below_drewN ?_ _ | refine below_drew1 ?_)))).mono ?_; rintro e w2 ⟨v, rfl, hv, hb⟩; obtain ⟨Av, cv, ev⟩ := Kd.R_slice hv; subst ev; have HV := Aside0.mk (Kd.R_lower hv HB.out.size); have HB1 := Aside0.mk (below_step (by repeat (first | exact HB.out | refine below_alloc ?_ _ | refine pw_below_drewN ?_ _ | refine below_drew1 ?_)) hb); clear hv hb HB; have HB := HB1; clear HB1))
    go_ret2
    exact ⟨(fun m hm => by cases hm), fun _ => ⟨_, rfl, HB.out.size, _, _, blk_new _ _, HB.out.size, Kd.R_alloc HV.out _, Kd.R_nil _ _ _ _ _⟩, below_alloc HB.out _⟩
theorem len_calls (g base : Nat) (bot : List S41) (lays : List S69) (w : World) (hC : Chn w g base bot lays) :
    Calls Try.prog 38 #[.pointer (some ⟨g, 0, none⟩)] w fun e w' => e = .returned (.int .i64 (lays.length : Int)) ∧ Below w.heap.size w w' := by
  obtain ⟨vb, vl, hg, hbg, hRb, hRl⟩ := hC
  obtain ⟨Al, cl, el⟩ := Kd.R_slice hRl
  subst el
  have k1 : w.cell? ⟨g, 1, none⟩ = some (.slice Al lays.length cl) := (blk_cell hg 1).trans rfl
  have HB := Aside0.mk (Below.refl w.heap.size w)
  clear hg hRb hRl
  go_enter Try.func38, Try.ntmps38
  go_wp2
  go_ret
  exact ⟨rfl, HB.out⟩
set_option maxHeartbeats 4000000 in
set_option maxRecDepth 100000 in
theorem own_calls (A1 : Option Addr) (c1 : Nat) (l1 : List S41) (A2 : Option Addr) (c2 : Nat) (l2 : List S41) (w : World) (hr1 : Kd.C k41 w A1 l1.length l1) (hc1 : l1.length ≤ c1) (hr2 : Kd.C k41 w A2 l2.length l2) (hc2 : l2.length ≤ c2) (hl1 : l1.length ≤ 200) (hl2 : l2.length ≤ 200) :
    Calls Try.prog 64 #[.agg #[.slice A1 l1.length c1, .slice A2 l2.length c2]] w fun e w' => ∃ v, e = .returned v ∧ LRow w' w.heap.size v l1 l2 ∧ Below w.heap.size w w' := by
  have HR1 := Aside0.mk hr1; have HR2 := Aside0.mk hr2; have HB := Aside0.mk (Below.refl w.heap.size w)
  have hu69 := Try.underlying69
  have Bl : Aside0 (Box ((w.alloc (.cells #[.slice A1 l1.length c1, .slice A2 l2.length c2] 69)).alloc (.cells #[.slice none 0 0, .slice none 0 0] 69 (0, 0))) w.heap.size #[.slice A1 l1.length c1, .slice A2 l2.length c2]) := ⟨fun c v h => cell?_alloc_old' (Box.new _ _ _ c v h) _⟩
  have HK : Aside0 (((w.alloc (.cells #[.slice A1 l1.length c1, .slice A2 l2.length c2] 69)).alloc (.cells #[.slice none 0 0, .slice none 0 0] 69 (0, 0))).heap[w.heap.size + 1]? = some (.cells #[.slice none 0 0, .slice none 0 0] 69 (0, 0))) := ⟨by have h := blk_new (w.alloc (.cells #[.slice A1 l1.length c1, .slice A2 l2.length c2] 69)) (.cells #[.slice none 0 0, .slice none 0 0] 69 (0, 0)); rw [alloc_size1] at h; exact h⟩
  have hcl1 := fun W (hC : Kd.C k41 W A1 l1.length l1) => clone_T.calls A1 c1 l1 l1 W hC hc1 (by unfold clone_T.f; rw [if_pos (by omega)])
  have hcl2 := fun W (hC : Kd.C k41 W A2 l2.length l2) => clone_T.calls A2 c2 l2 l2 W hC hc2 (by unfold clone_T.f; rw [if_pos (by omega)])
  have HCL1 := Aside0.mk hcl1; have HCL2 := Aside0.mk hcl2
  clear hr1 hr2 hcl1 hcl2
  have k0 := Bl.out 0 (.slice A1 l1.length c1) rfl; have k1 := Bl.out 1 (.slice A2 l2.length c2) rfl
  have r0 : ((w.alloc (.cells #[.slice A1 l1.length c1, .slice A2 l2.length c2] 69)).alloc (.cells #[.slice none 0 0, .slice none 0 0] 69 (0, 0))).cell? ⟨w.heap.size + 1, 0, none⟩ = some (.slice none 0 0) := (blk_cell HK.out 0).trans rfl; have r1 : ((w.alloc (.cells #[.slice A1 l1.length c1, .slice A2 l2.length c2] 69)).alloc (.cells #[.slice none 0 0, .slice none 0 0] 69 (0, 0))).cell? ⟨w.heap.size + 1, 1, none⟩ = some (.slice none 0 0) := (blk_cell HK.out 1).trans rfl; have f0 : ((w.alloc (.cells #[.slice A1 l1.length c1, .slice A2 l2.length c2] 69)).alloc (.cells #[.slice none 0 0, .slice none 0 0] 69 (0, 0))).frozen? ⟨w.heap.size + 1, 0, none⟩ = false := blk_frozen HK.out 0; have f1 : ((w.alloc (.cells #[.slice A1 l1.length c1, .slice A2 l2.length c2] 69)).alloc (.cells #[.slice none 0 0, .slice none 0 0] 69 (0, 0))).frozen? ⟨w.heap.size + 1, 1, none⟩ = false := blk_frozen HK.out 1
  go_enter Try.func64, Try.ntmps64
  go_wp2_with (fail)
  go_region_held3 (fun W => W.cell? ⟨w.heap.size, 0, none⟩ = some (.slice A1 l1.length c1) ∧ W.cell? ⟨w.heap.size, 1, none⟩ = some (.slice A2 l2.length c2)) (first | exact ⟨m0, m1⟩ | exact ⟨k0, k1⟩ | go_keep) (first | (go_at_call 62; have _t := tok1; refine (HCL2.out _ (Kd.C_below HR2.out (by repeat (first | exact Below.refl _ _ | refine below_alloc ?_ _ | refine pw_below_drewN ?_ _ | refine below_drew1 ?_ | refine below_set ?_ (Nat.le_refl _))))).mono ?_; rintro e w' ⟨v, rfl, hv, hb⟩; obtain ⟨Av, cv, ev⟩ := Kd.R_slice hv; subst ev; have HV := Aside0.mk (Kd.R_lower hv (Nat.le_trans HB.out.size (show _ ≤ _ from by first | exact Nat.le_refl _ | (simp; done) | (simp; omega)))); have HU2 := Aside0.mk (Kd.R_below (by repeat (first | exact HU.out | refine Kd.R_drewN ?_ _ | refine Kd.R_drew ?_ | refine Kd.R_alloc ?_ _)) hb); clear hv HU; have HU := HU2; clear HU2; have n1 := Aside0.mk (Kd.C_below (Kd.C_below HR1.out (by repeat (first | exact Below.refl _ _ | refine below_alloc ?_ _ | refine pw_below_drewN ?_ _ | refine below_drew1 ?_ | refine below_set ?_ (Nat.le_refl _)))) hb); have n2 := Aside0.mk (Kd.C_below (Kd.C_below HR2.out (by repeat (first | exact Below.refl _ _ | refine below_alloc ?_ _ | refine pw_below_drewN ?_ _ | refine below_drew1 ?_ | refine below_set ?_ (Nat.le_refl _)))) hb); have bl := Aside0.mk (Box.keep (by repeat (first | exact Below.refl _ _ | refine below_alloc ?_ _ | refine pw_below_drewN ?_ _ | refine below_drew1 ?_ | refine below_set ?_ (Nat.le_refl _))) hb Bl.out); have nb := Aside0.mk (below_step (below_step HB.out (by repeat (first | exact Below.refl _ _ | refine below_alloc ?_ _ | refine pw_below_drewN ?_ _ | refine below_drew1 ?_ | refine below_set ?_ (Nat.le_refl _)))) hb); clear HB HR1 HR2 Bl; have HB := nb; have HR1 := n1; have HR2 := n2; have Bl := bl; clear nb n1 n2 bl; have nk := Aside0.mk (blk_below (by repeat (first | exact HK.out | refine blk_drewN ?_ _ | refine blk_drew ?_ | refine blk_alloc ?_ _)) hb); clear HK; have HK := nk; clear nk; have m0 := Bl.out 0 (.slice A1 l1.length c1) rfl; have m1 := Bl.out 1 (.slice A2 l2.length c2) rfl; have r0 : w'.cell? ⟨w.heap.size + 1, 0, none⟩ = some (.slice none 0 0) := (blk_cell HK.out 0).trans rfl; have r1 : w'.cell? ⟨w.heap.size + 1, 1, none⟩ = some (.slice none 0 0) := (blk_cell HK.out 1).trans rfl; have f0 : w'.frozen? ⟨w.heap.size + 1, 0, none⟩ = false := blk_frozen HK.out 0; have f1 : w'.frozen? ⟨w.heap.size + 1, 1, none⟩ = false := blk_frozen HK.out 1; clear hb) | (go_at_call 62; refine (HCL1.out _ (Kd.C_below HR1.out (by repeat (first | exact Below.refl _ _ | refine below_alloc ?_ _ | refine pw_below_drewN ?_ _ | refine below_drew1 ?_ | refine below_set ?_ (Nat.le_refl _))))).mono ?_; rintro e w' ⟨v, rfl, hv, hb⟩; obtain ⟨Au, cu, eu⟩ := Kd.R_slice hv; subst eu; have HU := Aside0.mk (Kd.R_lower hv (Nat.le_trans HB.out.size (show _ ≤ _ from by first | exact Nat.le_refl _ | (simp; done) | (simp; omega)))); clear hv; have tok1 : True := trivial; have n1 := Aside0.mk (Kd.C_below (Kd.C_below HR1.out (by repeat (first | exact Below.refl _ _ | refine below_alloc ?_ _ | refine pw_below_drewN ?_ _ | refine below_drew1 ?_ | refine below_set ?_ (Nat.le_refl _)))) hb); have n2 := Aside0.mk (Kd.C_below (Kd.C_below HR2.out (by repeat (first | exact Below.refl _ _ | refine below_alloc ?_ _ | refine pw_below_drewN ?_ _ | refine below_drew1 ?_ | refine below_set ?_ (Nat.le_refl _)))) hb); have bl := Aside0.mk (Box.keep (by repeat (first | exact Below.refl _ _ | refine below_alloc ?_ _ | refine pw_below_drewN ?_ _ | refine below_drew1 ?_ | refine below_set ?_ (Nat.le_refl _))) hb Bl.out); have nb := Aside0.mk (below_step (below_step HB.out (by repeat (first | exact Below.refl _ _ | refine below_alloc ?_ _ | refine pw_below_drewN ?_ _ | refine below_drew1 ?_ | refine below_set ?_ (Nat.le_refl _)))) hb); clear HB HR1 HR2 Bl; have HB := nb; have HR1 := n1; have HR2 := n2; have Bl := bl; clear nb n1 n2 bl; have nk := Aside0.mk (blk_below (by repeat (first | exact HK.out | refine blk_drewN ?_ _ | refine blk_drew ?_ | refine blk_alloc ?_ _)) hb); clear HK; have HK := nk; clear nk; have m0 := Bl.out 0 (.slice A1 l1.length c1) rfl; have m1 := Bl.out 1 (.slice A2 l2.length c2) rfl; have r0 : w'.cell? ⟨w.heap.size + 1, 0, none⟩ = some (.slice none 0 0) := (blk_cell HK.out 0).trans rfl; have r1 : w'.cell? ⟨w.heap.size + 1, 1, none⟩ = some (.slice none 0 0) := (blk_cell HK.out 1).trans rfl; have f0 : w'.frozen? ⟨w.heap.size + 1, 0, none⟩ = false := blk_frozen HK.out 0; have f1 : w'.frozen? ⟨w.heap.size + 1, 1, none⟩ = false := blk_frozen HK.out 1; clear hb))
  all_goals
    go_wp2
    clear r0 r1 f0 f1
    refine bodyPost_ret (results_cell_row rfl _ _ (w.heap.size + 1) 69 #[.slice Au l1.length cu, .slice Av l2.length cv] (0, 0) _ rfl (blk_put (cs := #[.slice Au l1.length cu, .slice none 0 0]) (blk_put (cs := #[.slice none 0 0, .slice none 0 0]) (by repeat (first | exact HK.out | refine blk_drewN ?_ _ | refine blk_drew ?_ | refine blk_alloc ?_ _)) 0 _ rfl) 1 _ rfl) Try.underlying69 rfl (by kernel_rfl)) rfl ?_
    exact ⟨_, rfl, ⟨_, _, rfl, Kd.R_set (Kd.R_set (by repeat (first | exact HU.out | refine Kd.R_drewN ?_ _ | refine Kd.R_drew ?_ | refine Kd.R_alloc ?_ _)) HK.out (by decide) 0 _) (blk_put HK.out 0 _ rfl) (by decide) 1 _, Kd.R_set (Kd.R_set (by repeat (first | exact HV.out | refine Kd.R_drewN ?_ _ | refine Kd.R_drew ?_ | refine Kd.R_alloc ?_ _)) HK.out (by decide) 0 _) (blk_put HK.out 0 _ rfl) (by decide) 1 _⟩, below_set (below_set HB.out (Nat.le_succ _)) (Nat.le_succ _)⟩
end Go.Proofs.Ytdjamphmndbmjaa.M

/- Package chain: graph, Graph (printed by wip/gen_ch2.py). -/
namespace Go.Proofs.Ytdjamphmndbmjaa.M
open Go.RowKit Go.Proofs.YtdjamphmndbmjaaW.PrintWords Go.Proofs.YtdjamphmndbmjaaW.PrintLast Go.Proofs.YtdjamphmndbmjaaW.PrintMore
set_option linter.unusedVariables false
set_option linter.unusedSimpArgs false

theorem Chn.cells {w : World} {g base : Nat} {bot : List S41} {lays : List S69} (h : Chn w g base bot lays) : ∃ Ab cb Al cl, w.cell? ⟨g, 0, none⟩ = some (.slice Ab bot.length cb) ∧ w.cell? ⟨g, 1, none⟩ = some (.slice Al lays.length cl) ∧ Kd.C k41 w Ab bot.length bot ∧ bot.length ≤ cb ∧ Kd.C k69 w Al lays.length lays ∧ lays.length ≤ cl := by
  obtain ⟨vb, vl, hg, hbg, hRb, hRl⟩ := h
  obtain ⟨Ab, cb, eb, hcb, hCb⟩ := Kd.R_reads hRb
  obtain ⟨Al, cl, el, hcl, hCl⟩ := Kd.R_reads hRl
  subst eb; subst el
  exact ⟨Ab, cb, Al, cl, (blk_cell hg 0).trans rfl, (blk_cell hg 1).trans rfl, hCb, hcb, hCl, hcl⟩
set_option maxHeartbeats 4000000 in
set_option maxRecDepth 100000 in
theorem graph_calls (g base : Nat) (bot : List S41) (lays : List S69) (n : Nat) (w : World) (hC : Chn w g base bot lays) (hn : n ≤ lays.length) (hb200 : bot.length ≤ 200) (hok : GOk bot lays) (hl : lays.length ≤ 1000) :
    Calls Try.prog 63 #[.pointer (some ⟨g, 0, none⟩), .int .i64 (n : Int)] w fun e w' => ∃ v, e = .returned v ∧ Kd.R k41 41 w' w.heap.size (fun _ => True) v (graphR bot (lays.take n)) ∧ Below w.heap.size w w' := by
  obtain ⟨Ab, cb, Al, cl, k0, k1, hCb, hcb, hCl, hcl⟩ := hC.cells
  clear hC
  have hgl : g < w.heap.size := World.block_lt_of_cell? w _ k0
  have hcl1 := fun W (hC : Kd.C k41 W Ab bot.length bot) => clone_T.calls Ab cb bot bot W hC hcb (by unfold clone_T.f; rw [if_pos (by omega)])
  have HCL := Aside0.mk hcl1; have HRB := Aside0.mk hCb; have HRL := Aside0.mk hCl; have HOK := Aside0.mk hok; have HB := Aside0.mk (Below.refl w.heap.size w); have HK0 := Aside0.mk k0; have HK1 := Aside0.mk k1; have HN := Aside0.mk hn; have HGL := Aside0.mk hgl; have HLN := Aside0.mk hl; clear hl
  have hn0 : (0 : Int) ≤ (n : Int) := Int.natCast_nonneg _; have hn1 : (n : Int) ≤ (cl : Int) := by omega
  clear hCb hCl hok hcl1 hgl hn k1
  go_enter Try.func63, Try.ntmps63
  go_wp2_with (go_at_call 62; refine (HCL.out _ HRB.out).mono ?_; rintro e w1 ⟨v, rfl, hv, hb⟩; obtain ⟨Av, cv, ev⟩ := Kd.R_slice hv; subst ev; have HV := Aside0.mk hv; have k1 := (hb.cell (World.block_lt_of_cell? _ _ HK1.out)).trans HK1.out; have HB1 := Aside0.mk hb; clear hv hb)
  go_loopg [5, 7, 20] n (fun gg s5 _ s20 wr => ∃ k : Nat, k ≤ n ∧ n - k ≤ gg ∧ s20 = .int .i64 k ∧ Aside0 (Below w.heap.size w wr) ∧ Aside0 (Kd.R k41 41 wr w.heap.size (fun _ => True) s5 (graphR bot (lays.take k))))
  case atStart => exact ⟨0, Nat.zero_le _, by omega, rfl, HB1, ⟨by rw [List.take_zero]; exact HV.out⟩⟩
  case round =>
    obtain ⟨k, hk, hg, rfl, HB2, HS⟩ := hrel
    have hz := HN.out; have hz2 := HLN.out
    by_cases hlt : k < n
    · have hkl : k < lays.length := by omega
      have hltz : (k : Int) < (n : Int) := by omega
      obtain ⟨q1, q2, q3⟩ := HOK.out k hkl
      have hst := graphR_snoc bot lays k hkl
      unfold stepR at hst
      obtain ⟨ad, A0, c0, A1, c1, e0, z0, z1, l0, C0, l1, C1⟩ := at_T69 (Kd.C_below HRL.out HB2.out) (k : Int) (by omega) (by omega)
      rw [rd_lay lays k hkl] at z0 z1 l0 C0 l1 C1
      have hs := HS.out; obtain ⟨As, cs, es, hcs, hCs⟩ := Kd.R_reads hs
      subst es; subst e0
      generalize graphR bot (lays.take k) = s at *
      generalize lays[k].f1 = lt at *
      generalize lays[k].f0 = la at *
      have hle := part_le s lt false
      have HP := Aside0.mk (fun W h1 h2 => part_R As cs s A1 c1 lt false W h1 hcs h2 l1 (by omega) q2)
      have HU := Aside0.mk (fun W A c h1 h2 h3 => union_R A c (partR s lt false) A0 c0 la W h1 h2 h3 l0 (by omega))
      generalize partR s lt false = p at *
      generalize unionR p la = u at *
      have HST := Aside0.mk hst; have HCS := Aside0.mk hCs; have HC0 := Aside0.mk C0; have HC1 := Aside0.mk C1; clear hst hs hCs C0 C1 q1 q2 q3 hle l0 l1 hcs HS
      have HBr := Aside0.mk (Below.refl wr.heap.size wr)
      rw [Int.toNat_natCast] at z0 z1
      go_wp2_with (fail)
      clear z0 z1
      have k0 : (wr.alloc (.cells #[.slice A0 la.length c0, .slice A1 lt.length c1] 69)).cell? ⟨wr.heap.size, 0, none⟩ = some (.slice A0 la.length c0) := Box.new _ _ _ 0 _ rfl; have k1 : (wr.alloc (.cells #[.slice A0 la.length c0, .slice A1 lt.length c1] 69)).cell? ⟨wr.heap.size, 1, none⟩ = some (.slice A1 lt.length c1) := Box.new _ _ _ 1 _ rfl
      have BX : Aside0 (Box (wr.alloc (.cells #[.slice A0 la.length c0, .slice A1 lt.length c1] 69)) wr.heap.size #[.slice A0 la.length c0, .slice A1 lt.length c1]) := ⟨Box.new _ _ _⟩
      go_region_held3 (fun W => W.cell? ⟨wr.heap.size, 0, none⟩ = some (.slice A0 la.length c0) ∧ W.cell? ⟨wr.heap.size, 1, none⟩ = some (.slice A1 lt.length c1)) (first | exact ⟨m0, m1⟩ | exact ⟨k0, k1⟩ | go_keep) (first | (go_at_call 49; refine (HP.out _ (Kd.C_below HCS.out (by repeat (first | exact HBr.out | refine below_alloc ?_ _ | refine pw_below_drewN ?_ _ | refine below_drew1 ?_))) (Kd.C_below HC1.out (by repeat (first | exact HBr.out | refine below_alloc ?_ _ | refine pw_below_drewN ?_ _ | refine below_drew1 ?_)))).mono ?_; rintro e w5 ⟨v, rfl, hv, hb⟩; obtain ⟨Ap, cp, rfl, hCp, hcp⟩ := R_row hv; have HRP := Aside0.mk hCp; have HLP := Aside0.mk hcp; clear hv hCp hcp; have HBn := Aside0.mk (below_step (show Below wr.heap.size wr _ from (by repeat (first | exact HBr.out | refine below_alloc ?_ _ | refine pw_below_drewN ?_ _ | refine below_drew1 ?_))) hb); have BXn := Aside0.mk (Box.keep (by repeat (first | exact Below.refl _ _ | refine pw_below_drewN ?_ _ | refine below_drew1 ?_)) hb BX.out); clear HBr BX; have HBr := HBn; have BX := BXn; clear HBn BXn; have m0 := BX.out 0 (.slice A0 la.length c0) rfl; have m1 := BX.out 1 (.slice A1 lt.length c1) rfl; clear hb) | (go_at_call 60; refine (HU.out _ Ap cp (Kd.C_below HRP.out (by repeat (first | exact Below.refl _ _ | refine pw_below_drewN ?_ _ | refine below_drew1 ?_))) HLP.out (Kd.C_below HC0.out (by repeat (first | exact HBr.out | refine below_alloc ?_ _ | refine pw_below_drewN ?_ _ | refine below_drew1 ?_)))).mono ?_; rintro e w6 ⟨v, rfl, hv, hb⟩; have HV6 := Aside0.mk hv; clear hv; obtain ⟨Au, cu, eu⟩ := Kd.R_slice HV6.out; subst eu; have HSZ := Aside0.mk HBr.out.size; have HBn := Aside0.mk (below_step (show Below wr.heap.size wr _ from (by repeat (first | exact HBr.out | refine below_alloc ?_ _ | refine pw_below_drewN ?_ _ | refine below_drew1 ?_))) hb); have BXn := Aside0.mk (Box.keep (by repeat (first | exact Below.refl _ _ | refine pw_below_drewN ?_ _ | refine below_drew1 ?_)) hb BX.out); clear HBr BX; have HBr := HBn; have BX := BXn; clear HBn BXn; have m0 := BX.out 0 (.slice A0 la.length c0) rfl; have m1 := BX.out 1 (.slice A1 lt.length c1) rfl; clear hb))
      go_wp2
      go_roundg (n - (k + 1))
      case measure => omega
      case rel => exact ⟨k + 1, by omega, by omega, by go_num, ⟨below_step HB2.out HBr.out⟩, ⟨by rw [HST.out]; exact Kd.R_lower HV6.out (Nat.le_trans HB2.out.size (Nat.le_trans HSZ.out (show _ ≤ _ from by first | exact Nat.le_refl _ | (simp; done) | (simp; omega))))⟩⟩
    · obtain rfl : k = n := by omega
      have hltz : ¬ (k : Int) < (k : Int) := by omega
      obtain ⟨As, cs, es⟩ := Kd.R_slice HS.out
      subst es
      go_wp2
      go_ret
      exact ⟨_, rfl, HS.out, HB2.out⟩
set_option maxHeartbeats 4000000 in
set_option maxRecDepth 100000 in
theorem Graph_ok (g base : Nat) (bot : List S41) (lays : List S69) (n : Nat) (w : World) (hC : Chn w g base bot lays) (hn : n ≤ lays.length) (hb200 : bot.length ≤ 200) (hok : GOk bot lays) (hl : lays.length ≤ 1000) :
    Calls Try.prog 39 #[.pointer (some ⟨g, 0, none⟩), .int .i64 (n : Int)] w fun e w' => ∃ v, e = .returned (.tuple #[v, .nilIface]) ∧ Kd.R k41 41 w' w.heap.size (fun _ => True) v (graphR bot (lays.take n)) ∧ Below w.heap.size w w' := by
  obtain ⟨Ab, cb, Al, cl, k0, k1, hCb, hcb, hCl, hcl⟩ := hC.cells
  have hg := graph_calls g base bot lays n w hC hn hb200 hok hl
  have h0 : ¬ (n : Int) < 0 := by omega
  have h1 : ¬ (n : Int) > (lays.length : Int) := by omega
  have h2 : decide (lays.length < n) = false := decide_eq_false (by omega)
  generalize graphR bot (lays.take n) = u at hg ⊢
  have HG := Aside0.mk hg; clear hg hC hCb hCl hcb hcl hok hn k0
  go_enter Try.func39, Try.ntmps39
  go_wp2_with (go_at_call 63; refine HG.out.mono ?_; rintro e w1 ⟨v, rfl, hv, hb⟩; obtain ⟨Av, cv, ev⟩ := Kd.R_slice hv; subst ev; have HV := Aside0.mk hv; have HB := Aside0.mk hb; clear hv hb)
  go_ret2
  exact ⟨_, rfl, HV.out, HB.out⟩
end Go.Proofs.Ytdjamphmndbmjaa.M

/- Package chain: the last region of Push, by what each of its operations makes (printed by wip/gen_ch4.py). -/
namespace Go.Proofs.Ytdjamphmndbmjaa.M
open Go.RowKit Go.Proofs.YtdjamphmndbmjaaW.PrintWords Go.Proofs.YtdjamphmndbmjaaW.PrintLast Go.Proofs.YtdjamphmndbmjaaW.PrintMore
set_option linter.unusedVariables false
set_option linter.unusedSimpArgs false

theorem xinfoL : (Try.prog.info? 69).map (fun i => (i.zero, i.size, i.bytes)) = some (some (.agg #[.slice none 0 0, .slice none 0 0]), 2, 48) := by kernel_rfl
theorem lay_reads {w : World} {b base : Nat} {okp : Nat → Prop} {v1 v2 : Value} {l1 l2 : List S41} (h : w.heap[b]? = some (.cells #[v1, v2] 69 (0, 0))) (hM : k69.M w base okp ⟨l1, l2⟩ [v1, v2]) : ReadsRow (fun x cs => k69.M w base okp x cs) k69.sz w (some ⟨b, 0, none⟩) 1 [(⟨l1, l2⟩ : S69)] := by
  refine ⟨rfl, by decide, fun _ => ⟨_, rfl, fun j p hj => ?_⟩⟩
  have hj0 : j = 0 := by
    rcases j with _ | j
    · rfl
    · simp at hj
  subst hj0
  obtain rfl : (⟨l1, l2⟩ : S69) = p := by simpa using hj
  refine ⟨[v1, v2], rfl, hM, fun i u hi => ?_⟩
  have ha : Addr.add ⟨b, 0, none⟩ (0 * k69.sz + i) = ⟨b, i, none⟩ := by simp [Addr.add]; intro h; exact h.symm
  rw [ha]
  exact (blk_cell h i).trans (by rw [← hi]; simp)
def pushOps : Array Oper := #[{ dst := some 29, op := Op.move (Operand.tmp 0), type := 79, pos := "chain.go:52", after := #[], guard := none },
  { dst := some 30, op := Op.move (Operand.tmp 0), type := 79, pos := "chain.go:52", after := #[], guard := none },
  { dst := some 31, op := Op.nilCheck (Operand.tmp 30), type := 0, pos := "chain.go:52", after := #[{ on := 1, ground := Ground.data }], guard := none },
  { dst := some 32, op := Op.fieldAddr 116 (Operand.tmp 31) 1, type := 0, pos := "chain.go:52", after := #[{ on := 2, ground := Ground.data }], guard := none },
  { dst := some 33, op := Op.load 114 (Operand.tmp 32), type := 114, pos := "chain.go:52", after := #[{ on := 3, ground := Ground.data }], guard := none },
  { dst := some 34, op := Op.load 69 (Operand.tmp 3), type := 69, pos := "chain.go:52", after := #[], guard := none },
  { dst := some 35, op := Op.call { callee := Callee.value (Operand.func 64), args := #[Operand.tmp 34], argTypes := #[69] }, type := 69, pos := "chain.go:52", after := #[{ on := 5, ground := Ground.data }], guard := none },
  { dst := some 36, op := Op.buildSlice 114 1 #[(0, Operand.tmp 35)], type := 114, pos := "chain.go:52", after := #[{ on := 6, ground := Ground.data }], guard := none },
  { dst := some 37, op := Op.call { callee := Callee.builtin Builtin.append, args := #[Operand.tmp 33, Operand.tmp 36], argTypes := #[114, 114] }, type := 114, pos := "chain.go:52", after := #[{ on := 4, ground := Ground.data }, { on := 7, ground := Ground.data }, { on := 6, ground := Ground.chain }], guard := none },
  { dst := some 38, op := Op.nilCheck (Operand.tmp 29), type := 0, pos := "chain.go:52", after := #[{ on := 0, ground := Ground.data }, { on := 0, ground := Ground.phase }, { on := 1, ground := Ground.phase }, { on := 2, ground := Ground.phase }, { on := 3, ground := Ground.phase }, { on := 4, ground := Ground.phase }, { on := 5, ground := Ground.phase }, { on := 6, ground := Ground.phase }, { on := 7, ground := Ground.phase }, { on := 8, ground := Ground.phase }], guard := none },
  { dst := some 39, op := Op.fieldAddr 116 (Operand.tmp 38) 1, type := 0, pos := "chain.go:52", after := #[{ on := 9, ground := Ground.data }, { on := 0, ground := Ground.phase }, { on := 1, ground := Ground.phase }, { on := 2, ground := Ground.phase }, { on := 3, ground := Ground.phase }, { on := 4, ground := Ground.phase }, { on := 5, ground := Ground.phase }, { on := 6, ground := Ground.phase }, { on := 7, ground := Ground.phase }, { on := 8, ground := Ground.phase }], guard := none },
  { dst := none, op := Op.store 114 (Operand.tmp 39) (Operand.tmp 37), type := 0, pos := "chain.go:52", after := #[{ on := 10, ground := Ground.data }, { on := 8, ground := Ground.data }, { on := 8, ground := Ground.chain }, { on := 0, ground := Ground.phase }, { on := 1, ground := Ground.phase }, { on := 2, ground := Ground.phase }, { on := 3, ground := Ground.phase }, { on := 4, ground := Ground.phase }, { on := 5, ground := Ground.phase }, { on := 6, ground := Ground.phase }, { on := 7, ground := Ground.phase }, { on := 8, ground := Ground.phase }], guard := none }]
theorem push_apart : (pushOps.toList.map (·.dst)).Pairwise fun d e => d = none ∨ d ≠ e := by decide +kernel
theorem push_up : (List.range pushOps.size).all (fun i => (pushOps[i]?.map fun o => o.after.all fun e => !Region.binds .any e || decide (e.on < i)).getD true) = true := by decide +kernel
def pushR (g gb base : Nat) (w0 : World) (Ab Al : Option Addr) (cb cl : Nat) (bot : List S41) (lays : List S69) (A1 : Option Addr) (c1 : Nat) (l1 : List S41) (A2 : Option Addr) (c2 : Nat) (l2 : List S41) (x : Nat → Value) (i : Nat) (w : World) : Prop :=
  match i with
  | 0 => x 0 = .pointer (some ⟨g, 0, none⟩)
  | 1 => x 1 = .pointer (some ⟨g, 0, none⟩)
  | 2 => x 2 = .pointer (some ⟨g, 0, none⟩)
  | 3 => x 3 = .pointer (some ⟨g, 1, none⟩)
  | 4 => x 4 = (.slice Al lays.length cl)
  | 5 => x 5 = .agg #[.slice A1 l1.length c1, .slice A2 l2.length c2]
  | 6 => LRow w base (x 6) l1 l2
  | 7 => ∃ b v1 v2, x 7 = .slice (some ⟨b, 0, none⟩) 1 1 ∧ x 6 = .agg #[v1, v2] ∧ w.heap[b]? = some (.cells #[v1, v2] 69 (0, 0)) ∧ some b ≠ Value.ownBlock (.slice Al lays.length cl)
  | 8 => Kd.R k69 69 w base (fun _ => True) (x 8) (lays ++ [⟨l1, l2⟩])
  | 9 => x 9 = .pointer (some ⟨g, 0, none⟩)
  | 10 => x 10 = .pointer (some ⟨g, 1, none⟩)
  | 11 => w.heap[g]? = some (.cells #[(.slice Ab bot.length cb), x 8] 116 (0, 0))
  | _ => True
def pushJ (g gb base : Nat) (w0 : World) (Ab Al : Option Addr) (cb cl : Nat) (bot : List S41) (lays : List S69) (A1 : Option Addr) (c1 : Nat) (l1 : List S41) (A2 : Option Addr) (c2 : Nat) (l2 : List S41) (u8 : Bool) (u11 : Bool) (w : World) : Prop := Below base w0 w ∧ base ≤ w.heap.size ∧ (u11 = false → w.heap[g]? = some (.cells #[(.slice Ab bot.length cb), (.slice Al lays.length cl)] 116 (0, 0))) ∧ Kd.R k41 41 w base (fun _ => True) (.slice Ab bot.length cb) bot ∧ (u8 = false → w.heap[gb]? = some (.cells #[.slice A1 l1.length c1, .slice A2 l2.length c2] 69 (0, 0)) ∧ Kd.R k69 69 w base (fun _ => True) (.slice Al lays.length cl) lays ∧ Kd.C k41 w A1 l1.length l1 ∧ Kd.C k41 w A2 l2.length l2) ∧ (∀ b cs t, w0.heap[b]? = some (.cells cs t (0, 0)) → b ≠ g → some b ≠ Value.ownBlock (.slice Al lays.length cl) → w.heap[b]? = some (.cells cs t (0, 0)))
theorem push_Rx (g gb base : Nat) (w0 : World) (Ab Al : Option Addr) (cb cl : Nat) (bot : List S41) (lays : List S69) (A1 : Option Addr) (c1 : Nat) (l1 : List S41) (A2 : Option Addr) (c2 : Nat) (l2 : List S41) (x : Nat → Value) (y : Value) (i k : Nat) (w : World) (hd : ¬ Dep pushOps i k) (h : pushR g gb base w0 Ab Al cb cl bot lays A1 c1 l1 A2 c2 l2 x i w) : pushR g gb base w0 Ab Al cb cl bot lays A1 c1 l1 A2 c2 l2 (upd x k y) i w := by
  have hi : i ≠ k := fun e => hd (e ▸ Dep.refl _)
  rcases i with _ | _ | _ | _ | _ | _ | _ | _ | _ | _ | _ | _ | i
  ·
    have e0 : upd x k y 0 = x 0 := upd_ne x y (hi)
    unfold pushR at h ⊢
    simp only [e0]
    exact h
  ·
    have e1 : upd x k y 1 = x 1 := upd_ne x y (hi)
    unfold pushR at h ⊢
    simp only [e1]
    exact h
  ·
    have e2 : upd x k y 2 = x 2 := upd_ne x y (hi)
    unfold pushR at h ⊢
    simp only [e2]
    exact h
  ·
    have e3 : upd x k y 3 = x 3 := upd_ne x y (hi)
    unfold pushR at h ⊢
    simp only [e3]
    exact h
  ·
    have e4 : upd x k y 4 = x 4 := upd_ne x y (hi)
    unfold pushR at h ⊢
    simp only [e4]
    exact h
  ·
    have e5 : upd x k y 5 = x 5 := upd_ne x y (hi)
    unfold pushR at h ⊢
    simp only [e5]
    exact h
  ·
    have e6 : upd x k y 6 = x 6 := upd_ne x y (hi)
    unfold pushR at h ⊢
    simp only [e6]
    exact h
  ·
    have e6 : upd x k y 6 = x 6 := upd_ne x y (fun e => hd (e ▸ dep_of 1 (by decide +kernel)))
    have e7 : upd x k y 7 = x 7 := upd_ne x y (hi)
    unfold pushR at h ⊢
    simp only [e6, e7]
    exact h
  ·
    have e8 : upd x k y 8 = x 8 := upd_ne x y (hi)
    unfold pushR at h ⊢
    simp only [e8]
    exact h
  ·
    have e9 : upd x k y 9 = x 9 := upd_ne x y (hi)
    unfold pushR at h ⊢
    simp only [e9]
    exact h
  ·
    have e10 : upd x k y 10 = x 10 := upd_ne x y (hi)
    unfold pushR at h ⊢
    simp only [e10]
    exact h
  ·
    have e8 : upd x k y 8 = x 8 := upd_ne x y (fun e => hd (e ▸ dep_of 1 (by decide +kernel)))
    unfold pushR at h ⊢
    simp only [e8]
    exact h
  · unfold pushR; trivial
set_option maxHeartbeats 8000000 in
set_option maxRecDepth 100000 in
theorem push_region (a : Act) (W : World) (g gb base : Nat) (w0 : World) (Ab Al : Option Addr) (cb cl : Nat) (bot : List S41) (lays : List S69) (A1 : Option Addr) (c1 : Nat) (l1 : List S41) (A2 : Option Addr) (c2 : Nat) (l2 : List S41) (Q : Exit → Act → World → Prop) (hsz : a.tmps.size = 40) (t0 : a.tmps.getD 0 undef = .pointer (some ⟨g, 0, none⟩)) (t3 : a.tmps.getD 3 undef = .pointer (some ⟨gb, 0, none⟩)) (hbg : base ≤ g) (hll : lays.length < 30)
    (how : ∀ W', Kd.C k41 W' A1 l1.length l1 → Kd.C k41 W' A2 l2.length l2 → Calls Try.prog 64 #[.agg #[.slice A1 l1.length c1, .slice A2 l2.length c2]] W' fun e w' => ∃ v, e = .returned v ∧ LRow w' W'.heap.size v l1 l2 ∧ Below W'.heap.size W' w')
    (hJ0 : pushJ g gb base w0 Ab Al cb cl bot lays A1 c1 l1 A2 c2 l2 false false W.drew)
    (hend : ∀ x w', Below base w0 w' → w'.heap[g]? = some (.cells #[(.slice Ab bot.length cb), x 8] 116 (0, 0)) → Kd.R k41 41 w' base (fun _ => True) (.slice Ab bot.length cb) bot → Kd.R k69 69 w' base (fun _ => True) (x 8) (lays ++ [⟨l1, l2⟩]) → (∀ b cs t, w0.heap[b]? = some (.cells cs t (0, 0)) → b ≠ g → some b ≠ Value.ownBlock (.slice Al lays.length cl) → w'.heap[b]? = some (.cells cs t (0, 0))) → Q .normal (putAll a x pushOps.toList 0) w') :
    (Code.region 6 pushOps true).wp Try.prog Q a W := by
  have mixed : Try.prog.follows .mixedOrders = true := by kernel_rfl
  refine region_J mixed (fun up w => pushJ g gb base w0 Ab Al cb cl bot lays A1 c1 l1 A2 c2 l2 (up 8) (up 11) w) (pushR g gb base w0 Ab Al cb cl bot lays A1 c1 l1 A2 c2 l2) hJ0 push_apart push_up (push_Rx g gb base w0 Ab Al cb cl bot lays A1 c1 l1 A2 c2 l2) ?_ ?_
  · intro up x i oi w' hoi hui hcl hJ hdep K hK
    have hget := fun (i d : Nat) (o : Oper) (ho : pushOps.toList[i]? = some o) (hd : o.dst = some d) (hs : d < a.tmps.size) => putAll_get a x pushOps.toList 0 i d o ho hd hs push_apart
    have e0 : (putAll a x pushOps.toList 0).tmps.getD 0 undef = .pointer (some ⟨g, 0, none⟩) := (putAll_other a x pushOps.toList 0 0 (by decide +kernel)).trans t0
    have e3 : (putAll a x pushOps.toList 0).tmps.getD 3 undef = .pointer (some ⟨gb, 0, none⟩) := (putAll_other a x pushOps.toList 0 3 (by decide +kernel)).trans t3
    have keep : ∀ w'', Below w'.heap.size w' w'' → ∀ j, pushR g gb base w0 Ab Al cb cl bot lays A1 c1 l1 A2 c2 l2 x j w' → pushR g gb base w0 Ab Al cb cl bot lays A1 c1 l1 A2 c2 l2 x j w'' := by
      intro w'' hb j hj
      rcases j with _ | _ | _ | _ | _ | _ | _ | _ | _ | _ | _ | _ | j
      · exact hj
      · exact hj
      · exact hj
      · exact hj
      · exact hj
      · exact hj
      · obtain ⟨v1, v2, q1, q2, q3⟩ := hj; exact ⟨v1, v2, q1, Kd.R_below q2 hb, Kd.R_below q3 hb⟩
      · obtain ⟨b, v1, v2, q1, q2, q3, q4⟩ := hj; exact ⟨b, v1, v2, q1, q2, blk_below q3 hb, q4⟩
      · exact Kd.R_below hj hb
      · exact hj
      · exact hj
      · exact blk_below hj hb
      · exact trivial
    have jb : ∀ w'', Below w'.heap.size w' w'' → pushJ g gb base w0 Ab Al cb cl bot lays A1 c1 l1 A2 c2 l2 (up 8) (up 11) w'' := by
      intro w'' hb
      obtain ⟨j1, j2, j3, j4, j5, j6⟩ := hJ
      exact ⟨j1.trans (hb.mono j2), Nat.le_trans j2 hb.size, fun h => blk_below (j3 h) hb, Kd.R_below j4 hb, fun h => by obtain ⟨q1, q2, q3, q4⟩ := j5 h; exact ⟨blk_below q1 hb, Kd.R_below q2 hb, Kd.C_below q3 hb, Kd.C_below q4 hb⟩, fun b cs t h h1 h2 => blk_below (j6 b cs t h h1 h2) hb⟩
    rcases i with _ | _ | _ | _ | _ | _ | _ | _ | _ | _ | _ | _ | i
    · injection hoi with hoi; subst hoi
      generalize putAll a x pushOps.toList 0 = A at *
      have hrun : (execOp A.eval { dst := some 29, op := Op.move (Operand.tmp 0), type := 79, pos := "chain.go:52", after := #[], guard := none }).run Try.prog w' = .ok (.value (.pointer (some ⟨g, 0, none⟩))) w' := by
        have fa0 : A.tmps.getD 0 undef = .pointer (some ⟨g, 0, none⟩) := e0
        have fb0 : A.tmps[0]?.getD undef = .pointer (some ⟨g, 0, none⟩) := by rw [← Array.getD_eq_getD_getElem?]; exact fa0
        clear hK keep hget hdep jb hcl e0 e3; go_simp
      exact event_step rfl hrun (hK.out _ _ hJ (fun j _ _ hj => hj) (upd_at _ _ _))
    · injection hoi with hoi; subst hoi
      generalize putAll a x pushOps.toList 0 = A at *
      have hrun : (execOp A.eval { dst := some 30, op := Op.move (Operand.tmp 0), type := 79, pos := "chain.go:52", after := #[], guard := none }).run Try.prog w' = .ok (.value (.pointer (some ⟨g, 0, none⟩))) w' := by
        have fa0 : A.tmps.getD 0 undef = .pointer (some ⟨g, 0, none⟩) := e0
        have fb0 : A.tmps[0]?.getD undef = .pointer (some ⟨g, 0, none⟩) := by rw [← Array.getD_eq_getD_getElem?]; exact fa0
        clear hK keep hget hdep jb hcl e0 e3; go_simp
      exact event_step rfl hrun (hK.out _ _ hJ (fun j _ _ hj => hj) (upd_at _ _ _))
    · injection hoi with hoi; subst hoi
      have d1 : pushR g gb base w0 Ab Al cb cl bot lays A1 c1 l1 A2 c2 l2 x 1 w' := (hdep { on := 1, ground := Ground.data } (by simp [pushOps]) rfl).2
      have e30 : (putAll a x pushOps.toList 0).tmps.getD 30 undef = x 1 := by have h := hget 1 30 _ (show pushOps.toList[1]? = some _ from rfl) rfl (by rw [hsz]; decide); rw [Nat.zero_add] at h; exact h
      generalize putAll a x pushOps.toList 0 = A at *
      have hrun : (execOp A.eval { dst := some 31, op := Op.nilCheck (Operand.tmp 30), type := 0, pos := "chain.go:52", after := #[{ on := 1, ground := Ground.data }], guard := none }).run Try.prog w' = .ok (.value (.pointer (some ⟨g, 0, none⟩))) w' := by
        have fa30 : A.tmps.getD 30 undef = .pointer (some ⟨g, 0, none⟩) := e30.trans d1
        have fb30 : A.tmps[30]?.getD undef = .pointer (some ⟨g, 0, none⟩) := by rw [← Array.getD_eq_getD_getElem?]; exact fa30
        clear hK keep hget hdep jb hcl e0 e3 e30; go_simp
      exact event_step rfl hrun (hK.out _ _ hJ (fun j _ _ hj => hj) (upd_at _ _ _))
    · injection hoi with hoi; subst hoi
      have d2 : pushR g gb base w0 Ab Al cb cl bot lays A1 c1 l1 A2 c2 l2 x 2 w' := (hdep { on := 2, ground := Ground.data } (by simp [pushOps]) rfl).2
      have e31 : (putAll a x pushOps.toList 0).tmps.getD 31 undef = x 2 := by have h := hget 2 31 _ (show pushOps.toList[2]? = some _ from rfl) rfl (by rw [hsz]; decide); rw [Nat.zero_add] at h; exact h
      generalize putAll a x pushOps.toList 0 = A at *
      have hrun : (execOp A.eval { dst := some 32, op := Op.fieldAddr 116 (Operand.tmp 31) 1, type := 0, pos := "chain.go:52", after := #[{ on := 2, ground := Ground.data }], guard := none }).run Try.prog w' = .ok (.value (.pointer (some ⟨g, 1, none⟩))) w' := by
        have fa31 : A.tmps.getD 31 undef = .pointer (some ⟨g, 0, none⟩) := e31.trans d2
        have fb31 : A.tmps[31]?.getD undef = .pointer (some ⟨g, 0, none⟩) := by rw [← Array.getD_eq_getD_getElem?]; exact fa31
        clear hK keep hget hdep jb hcl e0 e3 e31; go_simp
      exact event_step rfl hrun (hK.out _ _ hJ (fun j _ _ hj => hj) (upd_at _ _ _))
    · injection hoi with hoi; subst hoi
      have j1 := hJ.1; have j2 := hJ.2.1; have j3 := hJ.2.2.1; have j4 := hJ.2.2.2.1; have j5 := hJ.2.2.2.2.1
      have q0 := j5 (hcl 8 (dep_of 1 (by decide +kernel)))
      have q1 := q0.1; have q2 := q0.2.1; have q3 := q0.2.2.1; have q4 := q0.2.2.2; clear q0
      have hgw := j3 (hcl 11 (dep_of 1 (by decide +kernel)))
      have d3 : pushR g gb base w0 Ab Al cb cl bot lays A1 c1 l1 A2 c2 l2 x 3 w' := (hdep { on := 3, ground := Ground.data } (by simp [pushOps]) rfl).2
      have e32 : (putAll a x pushOps.toList 0).tmps.getD 32 undef = x 3 := by have h := hget 3 32 _ (show pushOps.toList[3]? = some _ from rfl) rfl (by rw [hsz]; decide); rw [Nat.zero_add] at h; exact h
      generalize putAll a x pushOps.toList 0 = A at *
      have hrun : (execOp A.eval { dst := some 33, op := Op.load 114 (Operand.tmp 32), type := 114, pos := "chain.go:52", after := #[{ on := 3, ground := Ground.data }], guard := none }).run Try.prog w' = .ok (.value ((.slice Al lays.length cl))) w' := by
        have fa32 : A.tmps.getD 32 undef = .pointer (some ⟨g, 1, none⟩) := e32.trans d3
        have fb32 : A.tmps[32]?.getD undef = .pointer (some ⟨g, 1, none⟩) := by rw [← Array.getD_eq_getD_getElem?]; exact fa32
        have m1 := (blk_cell hgw 1).trans (show _ = some (Value.slice Al lays.length cl) from rfl)
        clear j1 j2 j3 j4 j5 hgw q1 q2 q3 q4
        clear hK keep hget hdep jb hcl e0 e3 e32; go_simp
      exact event_step rfl hrun (hK.out _ _ hJ (fun j _ _ hj => hj) (upd_at _ _ _))
    · injection hoi with hoi; subst hoi
      have j1 := hJ.1; have j2 := hJ.2.1; have j3 := hJ.2.2.1; have j4 := hJ.2.2.2.1; have j5 := hJ.2.2.2.2.1
      have q0 := j5 (hcl 8 (dep_of 2 (by decide +kernel)))
      have q1 := q0.1; have q2 := q0.2.1; have q3 := q0.2.2.1; have q4 := q0.2.2.2; clear q0
      have hgw := j3 (hcl 11 (dep_of 1 (by decide +kernel)))
      generalize putAll a x pushOps.toList 0 = A at *
      have hrun : (execOp A.eval { dst := some 34, op := Op.load 69 (Operand.tmp 3), type := 69, pos := "chain.go:52", after := #[], guard := none }).run Try.prog w' = .ok (.value (.agg #[.slice A1 l1.length c1, .slice A2 l2.length c2])) w' := by
        have fa3 : A.tmps.getD 3 undef = .pointer (some ⟨gb, 0, none⟩) := e3
        have fb3 : A.tmps[3]?.getD undef = .pointer (some ⟨gb, 0, none⟩) := by rw [← Array.getD_eq_getD_getElem?]; exact fa3
        have m0 := (blk_cell q1 0).trans (show _ = some (.slice A1 l1.length c1) from rfl); have m1 := (blk_cell q1 1).trans (show _ = some (.slice A2 l2.length c2) from rfl)
        have hu := Try.underlying69
        clear j1 j2 j3 j4 j5 hgw q1 q2 q3 q4
        clear hK keep hget hdep jb hcl e0 e3; go_simp
      exact event_step rfl hrun (hK.out _ _ hJ (fun j _ _ hj => hj) (upd_at _ _ _))
    · injection hoi with hoi; subst hoi
      have j1 := hJ.1; have j2 := hJ.2.1; have j3 := hJ.2.2.1; have j4 := hJ.2.2.2.1; have j5 := hJ.2.2.2.2.1
      have q0 := j5 (hcl 8 (dep_of 1 (by decide +kernel)))
      have q1 := q0.1; have q2 := q0.2.1; have q3 := q0.2.2.1; have q4 := q0.2.2.2; clear q0
      have hgw := j3 (hcl 11 (dep_of 1 (by decide +kernel)))
      have d5 : pushR g gb base w0 Ab Al cb cl bot lays A1 c1 l1 A2 c2 l2 x 5 w' := (hdep { on := 5, ground := Ground.data } (by simp [pushOps]) rfl).2
      have e34 : (putAll a x pushOps.toList 0).tmps.getD 34 undef = x 5 := by have h := hget 5 34 _ (show pushOps.toList[5]? = some _ from rfl) rfl (by rw [hsz]; decide); rw [Nat.zero_add] at h; exact h
      generalize putAll a x pushOps.toList 0 = A at *
      refine goes_ Try.func64 (by kernel_rfl) rfl #[.agg #[.slice A1 l1.length c1, .slice A2 l2.length c2]] rfl rfl rfl (by have q1 : A.eval (.tmp 34) = .agg #[.slice A1 l1.length c1, .slice A2 l2.length c2] := e34.trans d5; simp only [List.map_toArray, List.map_cons, List.map_nil, q1]) ((how w' q3 q4).mono ?_)
      rintro e w'' ⟨v, rfl, hv, hb⟩
      refine ⟨v, rfl, hK.out _ _ (jb _ hb) (fun j _ _ hj => keep _ hb j hj) ?_⟩
      show LRow w'' base (upd x 6 v 6) l1 l2
      rw [upd_at]
      exact hv.lower j2
    · injection hoi with hoi; subst hoi
      have j1 := hJ.1; have j2 := hJ.2.1; have j3 := hJ.2.2.1; have j4 := hJ.2.2.2.1; have j5 := hJ.2.2.2.2.1
      have q0 := j5 (hcl 8 (dep_of 1 (by decide +kernel)))
      have q1 := q0.1; have q2 := q0.2.1; have q3 := q0.2.2.1; have q4 := q0.2.2.2; clear q0
      have hgw := j3 (hcl 11 (dep_of 1 (by decide +kernel)))
      have d6 : pushR g gb base w0 Ab Al cb cl bot lays A1 c1 l1 A2 c2 l2 x 6 w' := (hdep { on := 6, ground := Ground.data } (by simp [pushOps]) rfl).2
      have e35 : (putAll a x pushOps.toList 0).tmps.getD 35 undef = x 6 := by have h := hget 6 35 _ (show pushOps.toList[6]? = some _ from rfl) rfl (by rw [hsz]; decide); rw [Nat.zero_add] at h; exact h
      generalize putAll a x pushOps.toList 0 = A at *
      obtain ⟨v1, v2, ev, hv1, hv2⟩ := id d6
      obtain ⟨Ax, cx, ex⟩ := Kd.R_slice hv1; obtain ⟨Ay, cy, ey⟩ := Kd.R_slice hv2
      subst ex; subst ey
      have hrun : (execOp A.eval { dst := some 36, op := Op.buildSlice 114 1 #[(0, Operand.tmp 35)], type := 114, pos := "chain.go:52", after := #[{ on := 6, ground := Ground.data }], guard := none }).run Try.prog w' = .ok (.value (.slice (some ⟨w'.heap.size, 0, none⟩) 1 1)) (w'.alloc (.cells #[.slice Ax l1.length cx, .slice Ay l2.length cy] 69 (0, 0))) := by
        have fa35 : A.tmps.getD 35 undef = .agg #[.slice Ax l1.length cx, .slice Ay l2.length cy] := e35.trans ev
        have fb35 : A.tmps[35]?.getD undef = .agg #[.slice Ax l1.length cx, .slice Ay l2.length cy] := by rw [← Array.getD_eq_getD_getElem?]; exact fa35
        clear hK keep hget hdep jb hcl j3 j5 hgw q1 e0 e3 e35 ev
        go_simp
      have hb := below_alloc (Below.refl w'.heap.size w') (.cells #[.slice Ax l1.length cx, .slice Ay l2.length cy] 69 (0, 0))
      refine event_step rfl hrun (hK.out _ _ (jb _ hb) (fun j _ _ hj => keep _ hb j hj) ?_)
      exact ⟨w'.heap.size, _, _, upd_at _ _ _, (upd_ne x _ (by decide)).trans ev, blk_new _ _, fun e => Nat.lt_irrefl _ (Kd.R_lt q2 _ e.symm)⟩
    · injection hoi with hoi; subst hoi
      have j1 := hJ.1; have j2 := hJ.2.1; have j3 := hJ.2.2.1; have j4 := hJ.2.2.2.1; have j5 := hJ.2.2.2.2.1
      have q0 := j5 (hui)
      have q1 := q0.1; have q2 := q0.2.1; have q3 := q0.2.2.1; have q4 := q0.2.2.2; clear q0
      have hgw := j3 (hcl 11 (dep_of 1 (by decide +kernel)))
      have D6 : pushR g gb base w0 Ab Al cb cl bot lays A1 c1 l1 A2 c2 l2 x 6 w' := (hdep { on := 6, ground := Ground.chain } (by simp [pushOps]) rfl).2
      have d4 : pushR g gb base w0 Ab Al cb cl bot lays A1 c1 l1 A2 c2 l2 x 4 w' := (hdep { on := 4, ground := Ground.data } (by simp [pushOps]) rfl).2
      have e33 : (putAll a x pushOps.toList 0).tmps.getD 33 undef = x 4 := by have h := hget 4 33 _ (show pushOps.toList[4]? = some _ from rfl) rfl (by rw [hsz]; decide); rw [Nat.zero_add] at h; exact h
      have d7 : pushR g gb base w0 Ab Al cb cl bot lays A1 c1 l1 A2 c2 l2 x 7 w' := (hdep { on := 7, ground := Ground.data } (by simp [pushOps]) rfl).2
      have e36 : (putAll a x pushOps.toList 0).tmps.getD 36 undef = x 7 := by have h := hget 7 36 _ (show pushOps.toList[7]? = some _ from rfl) rfl (by rw [hsz]; decide); rw [Nat.zero_add] at h; exact h
      generalize putAll a x pushOps.toList 0 = A at *
      obtain ⟨b, v1, v2, x7, x6, hbk, hne⟩ := id d7
      obtain ⟨v1', v2', ev, hv1, hv2⟩ := id D6
      obtain ⟨rfl, rfl⟩ : v1 = v1' ∧ v2 = v2' := by have h := x6.symm.trans ev; simpa using h
      have hty := Kd.R_typed q2
      refine Kd.R_append_rows_step k69 (w0 := w0) base rfl (.tmp 33) (.tmp 36) 114 69 _ 48 rfl Try.underlying114 xinfoL rfl (by decide) (by decide) (.slice Al lays.length cl) lays [⟨l1, l2⟩] (some ⟨b, 0, none⟩) 1 1 (fun _ => True) (fun k => True ∧ some k ≠ Value.ownBlock (.slice Al lays.length cl)) (e33.trans d4) (e36.trans x7) q2 (lay_reads hbk (k69_mkM w' base _ ⟨l1, l2⟩ (Kd.R_apart' hv1 hty (by decide)) (Kd.R_apart' hv2 hty (by decide)))) (fun _ _ h => h) (fun _ h => h) (fun _ _ => trivial) j1 j2 (by omega) ?_
      intro vn w1 hR hb hgrow hat
      refine hK.out _ _ ⟨hb, Nat.le_trans j2 hgrow.size, fun _ => blk_grown hgw hgrow (Kd.R_ne q2 hgw (by decide)), Kd.R_over' j4 hty (by decide) hgrow, (fun h => by cases h), fun b cs t h h1 h2 => blk_grown (hJ.2.2.2.2.2 b cs t h h1 h2) hgrow h2⟩ (fun j hj8 hjup hj => ?_) ?_
      · 
        rcases j with _ | _ | _ | _ | _ | _ | _ | _ | _ | _ | _ | _ | j
        · exact hj
        · exact hj
        · exact hj
        · exact hj
        · exact hj
        · exact hj
        · obtain ⟨v1, v2, q1, q2', q3'⟩ := hj; exact ⟨v1, v2, q1, Kd.R_over' q2' hty (by decide) hgrow, Kd.R_over' q3' hty (by decide) hgrow⟩
        · obtain ⟨b', v1, v2, q1, q2', q3', q4'⟩ := hj; exact ⟨b', v1, v2, q1, q2', blk_grown q3' hgrow q4', q4'⟩
        · exact absurd rfl hj8
        · exact hj
        · exact hj
        · exact absurd ((hcl 11 (dep_of 1 (by decide +kernel))).symm.trans hjup) (by decide)
        · exact trivial
      · show Kd.R k69 69 w1 base (fun _ => True) (upd x 8 vn 8) (lays ++ [⟨l1, l2⟩])
        rw [upd_at]
        exact hR
    · injection hoi with hoi; subst hoi
      have d0 : pushR g gb base w0 Ab Al cb cl bot lays A1 c1 l1 A2 c2 l2 x 0 w' := (hdep { on := 0, ground := Ground.data } (by simp [pushOps]) rfl).2
      have e29 : (putAll a x pushOps.toList 0).tmps.getD 29 undef = x 0 := by have h := hget 0 29 _ (show pushOps.toList[0]? = some _ from rfl) rfl (by rw [hsz]; decide); rw [Nat.zero_add] at h; exact h
      generalize putAll a x pushOps.toList 0 = A at *
      have hrun : (execOp A.eval { dst := some 38, op := Op.nilCheck (Operand.tmp 29), type := 0, pos := "chain.go:52", after := #[{ on := 0, ground := Ground.data }, { on := 0, ground := Ground.phase }, { on := 1, ground := Ground.phase }, { on := 2, ground := Ground.phase }, { on := 3, ground := Ground.phase }, { on := 4, ground := Ground.phase }, { on := 5, ground := Ground.phase }, { on := 6, ground := Ground.phase }, { on := 7, ground := Ground.phase }, { on := 8, ground := Ground.phase }], guard := none }).run Try.prog w' = .ok (.value (.pointer (some ⟨g, 0, none⟩))) w' := by
        have fa29 : A.tmps.getD 29 undef = .pointer (some ⟨g, 0, none⟩) := e29.trans d0
        have fb29 : A.tmps[29]?.getD undef = .pointer (some ⟨g, 0, none⟩) := by rw [← Array.getD_eq_getD_getElem?]; exact fa29
        clear hK keep hget hdep jb hcl e0 e3 e29; go_simp
      exact event_step rfl hrun (hK.out _ _ hJ (fun j _ _ hj => hj) (upd_at _ _ _))
    · injection hoi with hoi; subst hoi
      have d9 : pushR g gb base w0 Ab Al cb cl bot lays A1 c1 l1 A2 c2 l2 x 9 w' := (hdep { on := 9, ground := Ground.data } (by simp [pushOps]) rfl).2
      have e38 : (putAll a x pushOps.toList 0).tmps.getD 38 undef = x 9 := by have h := hget 9 38 _ (show pushOps.toList[9]? = some _ from rfl) rfl (by rw [hsz]; decide); rw [Nat.zero_add] at h; exact h
      generalize putAll a x pushOps.toList 0 = A at *
      have hrun : (execOp A.eval { dst := some 39, op := Op.fieldAddr 116 (Operand.tmp 38) 1, type := 0, pos := "chain.go:52", after := #[{ on := 9, ground := Ground.data }, { on := 0, ground := Ground.phase }, { on := 1, ground := Ground.phase }, { on := 2, ground := Ground.phase }, { on := 3, ground := Ground.phase }, { on := 4, ground := Ground.phase }, { on := 5, ground := Ground.phase }, { on := 6, ground := Ground.phase }, { on := 7, ground := Ground.phase }, { on := 8, ground := Ground.phase }], guard := none }).run Try.prog w' = .ok (.value (.pointer (some ⟨g, 1, none⟩))) w' := by
        have fa38 : A.tmps.getD 38 undef = .pointer (some ⟨g, 0, none⟩) := e38.trans d9
        have fb38 : A.tmps[38]?.getD undef = .pointer (some ⟨g, 0, none⟩) := by rw [← Array.getD_eq_getD_getElem?]; exact fa38
        clear hK keep hget hdep jb hcl e0 e3 e38; go_simp
      exact event_step rfl hrun (hK.out _ _ hJ (fun j _ _ hj => hj) (upd_at _ _ _))
    · injection hoi with hoi; subst hoi
      have j1 := hJ.1; have j2 := hJ.2.1; have j3 := hJ.2.2.1; have j4 := hJ.2.2.2.1; have j5 := hJ.2.2.2.2.1
      have hgw := j3 (hui)
      have d10 : pushR g gb base w0 Ab Al cb cl bot lays A1 c1 l1 A2 c2 l2 x 10 w' := (hdep { on := 10, ground := Ground.data } (by simp [pushOps]) rfl).2
      have e39 : (putAll a x pushOps.toList 0).tmps.getD 39 undef = x 10 := by have h := hget 10 39 _ (show pushOps.toList[10]? = some _ from rfl) rfl (by rw [hsz]; decide); rw [Nat.zero_add] at h; exact h
      have d8 : pushR g gb base w0 Ab Al cb cl bot lays A1 c1 l1 A2 c2 l2 x 8 w' := (hdep { on := 8, ground := Ground.data } (by simp [pushOps]) rfl).2
      have e37 : (putAll a x pushOps.toList 0).tmps.getD 37 undef = x 8 := by have h := hget 8 37 _ (show pushOps.toList[8]? = some _ from rfl) rfl (by rw [hsz]; decide); rw [Nat.zero_add] at h; exact h
      generalize putAll a x pushOps.toList 0 = A at *
      have HU8 : up 8 = true := (hdep { on := 8, ground := Ground.data } (by simp [pushOps]) rfl).1
      obtain ⟨An, cn, en⟩ := Kd.R_slice d8
      have m0 := (blk_cell hgw 0).trans (show _ = some (Value.slice Ab bot.length cb) from rfl); have m1 := (blk_cell hgw 1).trans (show _ = some (Value.slice Al lays.length cl) from rfl); have f1 : w'.frozen? ⟨g, 1, none⟩ = false := blk_frozen hgw 1
      have hrun : (execOp A.eval { dst := none, op := Op.store 114 (Operand.tmp 39) (Operand.tmp 37), type := 0, pos := "chain.go:52", after := #[{ on := 10, ground := Ground.data }, { on := 8, ground := Ground.data }, { on := 8, ground := Ground.chain }, { on := 0, ground := Ground.phase }, { on := 1, ground := Ground.phase }, { on := 2, ground := Ground.phase }, { on := 3, ground := Ground.phase }, { on := 4, ground := Ground.phase }, { on := 5, ground := Ground.phase }, { on := 6, ground := Ground.phase }, { on := 7, ground := Ground.phase }, { on := 8, ground := Ground.phase }], guard := none }).run Try.prog w' = .ok .skip (w'.setCell ⟨g, 1, none⟩ (x 8)) := by
        have fa39 : A.tmps.getD 39 undef = .pointer (some ⟨g, 1, none⟩) := e39.trans d10
        have fb39 : A.tmps[39]?.getD undef = .pointer (some ⟨g, 1, none⟩) := by rw [← Array.getD_eq_getD_getElem?]; exact fa39
        have fa37 : A.tmps.getD 37 undef = .slice An (lays ++ [(⟨l1, l2⟩ : S69)]).length cn := e37.trans en
        have fb37 : A.tmps[37]?.getD undef = .slice An (lays ++ [(⟨l1, l2⟩ : S69)]).length cn := by rw [← Array.getD_eq_getD_getElem?]; exact fa37
        rw [en]
        clear hK keep hget hdep jb hcl j1 j2 j3 j4 j5 hgw e0 e3 e39 e37 en d8 d10
        go_simp
      refine skip_step rfl hrun (hK.out _ _ ⟨j1.setCell hbg _, by simpa [World.setCell] using j2, fun h => (by cases h), Kd.R_set j4 hgw (by decide) 1 _, fun h => absurd (HU8.symm.trans h) (by decide), fun b cs t h h1 h2 => (Below.heap_setCell _ _ _ _ h1).trans (hJ.2.2.2.2.2 b cs t h h1 h2)⟩ (fun j hj11 hjup hj => ?_) ?_)
      · 
        rcases j with _ | _ | _ | _ | _ | _ | _ | _ | _ | _ | _ | _ | j
        · exact hj
        · exact hj
        · exact hj
        · exact hj
        · exact hj
        · exact hj
        · obtain ⟨v1, v2, q1, q2', q3'⟩ := hj; exact ⟨v1, v2, q1, Kd.R_set q2' hgw (by decide) 1 _, Kd.R_set q3' hgw (by decide) 1 _⟩
        · obtain ⟨b', v1, v2, q1, q2', q3', q4'⟩ := hj; exact ⟨b', v1, v2, q1, q2', (Below.heap_setCell _ _ _ _ (blk_ne q3' hgw (by decide))).trans q3', q4'⟩
        · exact Kd.R_set hj hgw (by decide) 1 _
        · exact hj
        · exact hj
        · exact absurd rfl hj11
        · exact trivial
      · show (w'.setCell ⟨g, 1, none⟩ (x 8)).heap[g]? = some (.cells #[(.slice Ab bot.length cb), upd x 11 _ 8] 116 (0, 0))
        rw [upd_ne x _ (show (8 : Nat) ≠ 11 by decide)]
        exact blk_put hgw 1 _ rfl
    · cases hoi
  · intro up x w' hall hJ hR
    obtain ⟨j1, j2, j3, j4, j5, j6⟩ := hJ
    have d8 : Kd.R k69 69 w' base (fun _ => True) (x 8) (lays ++ [⟨l1, l2⟩]) := hR 8 (by decide +kernel)
    have d11 : w'.heap[g]? = some (.cells #[(.slice Ab bot.length cb), x 8] 116 (0, 0)) := hR 11 (by decide +kernel)
    exact hend x w' j1 d11 j4 d8 j6
end Go.Proofs.Ytdjamphmndbmjaa.M

/- Package chain: Push (printed by wip/gen_ch3.py). -/
namespace Go.Proofs.Ytdjamphmndbmjaa.M
open Go.RowKit Go.Proofs.YtdjamphmndbmjaaW.PrintWords Go.Proofs.YtdjamphmndbmjaaW.PrintLast Go.Proofs.YtdjamphmndbmjaaW.PrintMore
set_option linter.unusedVariables false
set_option linter.unusedSimpArgs false

set_option maxHeartbeats 8000000 in
set_option maxRecDepth 100000 in
theorem push_ok (g base : Nat) (bot u : List S41) (lays : List S69) (A1 : Option Addr) (c1 : Nat) (l1 : List S41) (A2 : Option Addr) (c2 : Nat) (l2 : List S41) (w : World) (hC : Chn w g base bot lays) (hr1 : Kd.C k41 w A1 l1.length l1) (hc1 : l1.length ≤ c1) (hr2 : Kd.C k41 w A2 l2.length l2) (hc2 : l2.length ≤ c2) (hb200 : bot.length ≤ 200) (hok : GOk bot lays) (hl : lays.length < 30) (hap : applyR (graphR bot lays) l1 l2 = (u, none)) (hn1 : l1.length ≤ 200) (hn2 : l2.length ≤ 200) (hbw : base ≤ w.heap.size) :
    Calls Try.prog 37 #[.pointer (some ⟨g, 0, none⟩), .agg #[.slice A1 l1.length c1, .slice A2 l2.length c2]] w fun e w' => e = .returned .nilIface ∧ Chn w' g base bot (lays ++ [⟨l1, l2⟩]) ∧ Below base w w' ∧ ∀ b cs t, w.heap[b]? = some (.cells cs t (0, 0)) → b ≠ g → (∀ v1 v2, w.heap[g]? = some (.cells #[v1, v2] 116 (0, 0)) → some b ≠ v2.ownBlock) → w'.heap[b]? = some (.cells cs t (0, 0)) := by
  have HCH := Aside0.mk hC
  obtain ⟨vb, vl, hg, hbg, hRb, hRl⟩ := hC
  obtain ⟨Ab, cb, eb⟩ := Kd.R_slice hRb
  obtain ⟨Al, cl, el⟩ := Kd.R_slice hRl
  subst eb; subst el
  have hgl := blk_lt hg
  have HG := Aside0.mk hg; have HRB := Aside0.mk hRb; have HRL := Aside0.mk hRl; have HBG := Aside0.mk hbg; have HBW := Aside0.mk hbw; have HGL := Aside0.mk hgl
  have HNE : Aside0 (some w.heap.size ≠ (Value.slice Al lays.length cl).ownBlock) := ⟨fun e => Nat.lt_irrefl _ (Kd.R_lt hRl _ e.symm)⟩
  have hgr := fun W (hC : Chn W g base bot lays) => graph_calls g base bot lays lays.length W hC (Nat.le_refl _) hb200 hok (by omega)
  simp only [List.take_length] at hgr
  generalize graphR bot lays = s at hgr hap
  have HGR := Aside0.mk hgr; have HAP := Aside0.mk (fun W A c h0 h0' h1 h2 => apply_ok hap A c A1 c1 A2 c2 W h0 h0' h1 hc1 h2 hc2); have HOW := Aside0.mk (fun W h1 h2 => own_calls A1 c1 l1 A2 c2 l2 W h1 hc1 h2 hc2 hn1 hn2)
  have HR1 := Aside0.mk hr1
  have HR2 := Aside0.mk hr2
  have h30 : ¬ (lays.length : Int) ≥ 30 := by omega
  have HLL : Aside0 (lays.length < 30) := ⟨hl⟩
  have HB := Aside0.mk (Below.refl w.heap.size w)
  have BX : Aside0 (Box (w.alloc (.cells #[.slice A1 l1.length c1, .slice A2 l2.length c2] 69)) w.heap.size #[.slice A1 l1.length c1, .slice A2 l2.length c2]) := ⟨Box.new _ _ _⟩
  have HBK : Aside0 ((w.alloc (.cells #[.slice A1 l1.length c1, .slice A2 l2.length c2] 69)).heap[w.heap.size]? = some (.cells #[.slice A1 l1.length c1, .slice A2 l2.length c2] 69 (0, 0))) := ⟨blk_new _ _⟩
  have g0 := fun (o : Obj) => cell?_alloc_old' ((blk_cell hg 0).trans (show _ = some (Value.slice Ab bot.length cb) from rfl)) o
  have g1 := fun (o : Obj) => cell?_alloc_old' ((blk_cell hg 1).trans (show _ = some (Value.slice Al lays.length cl) from rfl)) o
  clear hg hRb hRl hbg hbw hgl hgr hap hok hb200 hr1 hr2 hl hn1 hn2 hc1 hc2
  have HL : Aside0 (Below w.heap.size w w) := ⟨Below.refl _ _⟩
  go_enter Try.func37, Try.ntmps37
  go_wp2_with (fail)
  have p0 := g0 (.cells #[.slice A1 l1.length c1, .slice A2 l2.length c2] 69); have p1 := g1 (.cells #[.slice A1 l1.length c1, .slice A2 l2.length c2] 69); have k0 := BX.out 0 (.slice A1 l1.length c1) rfl; have k1 := BX.out 1 (.slice A2 l2.length c2) rfl; clear g0 g1
  go_region_held3 (fun W => W.cell? ⟨g, 0, none⟩ = some (.slice Ab bot.length cb) ∧ W.cell? ⟨g, 1, none⟩ = some (.slice Al lays.length cl) ∧ W.cell? ⟨w.heap.size, 0, none⟩ = some (.slice A1 l1.length c1) ∧ W.cell? ⟨w.heap.size, 1, none⟩ = some (.slice A2 l2.length c2)) (first | exact ⟨m0, m1, m2, m3⟩ | exact ⟨p0, p1, k0, k1⟩ | go_keep) (first | (go_at_call 63; refine (HGR.out _ (Chn.below HCH.out (by repeat (first | exact HL.out | refine below_alloc ?_ _ | refine pw_below_drewN ?_ _ | refine below_drew1 ?_)))).mono ?_; rintro e w' ⟨v, rfl, hv, hb⟩; obtain ⟨As, cs, rfl, hCs, hcs⟩ := R_row hv; have HRS := Aside0.mk hCs; have HLS := Aside0.mk hcs; clear hv hCs hcs; have HLn := Aside0.mk (below_step (show Below w.heap.size w _ from (by repeat (first | exact HL.out | refine below_alloc ?_ _ | refine pw_below_drewN ?_ _ | refine below_drew1 ?_))) hb); have BXn := Aside0.mk (Box.keep (by repeat (first | exact Below.refl _ _ | refine pw_below_drewN ?_ _ | refine below_drew1 ?_ | refine below_alloc ?_ _)) hb BX.out); have HBKn := Aside0.mk (blk_below (by repeat (first | exact HBK.out | refine blk_drewN ?_ _ | refine blk_drew ?_ | refine blk_alloc ?_ _)) hb); clear HL BX HBK; have HL := HLn; have BX := BXn; have HBK := HBKn; clear HLn BXn HBKn; have hgw := blk_below HG.out HL.out; have m0 := (blk_cell hgw 0).trans (show _ = some (Value.slice Ab bot.length cb) from rfl); have m1 := (blk_cell hgw 1).trans (show _ = some (Value.slice Al lays.length cl) from rfl); clear hgw; have m2 := BX.out 0 (.slice A1 l1.length c1) rfl; have m3 := BX.out 1 (.slice A2 l2.length c2) rfl; clear hb) | (go_at_call 31; refine (HAP.out _ As cs (Kd.C_below HRS.out (by repeat (first | exact Below.refl _ _ | refine pw_below_drewN ?_ _ | refine below_drew1 ?_ | refine below_alloc ?_ _))) HLS.out (Kd.C_below HR1.out (by repeat (first | exact HL.out | refine below_alloc ?_ _ | refine pw_below_drewN ?_ _ | refine below_drew1 ?_))) (Kd.C_below HR2.out (by repeat (first | exact HL.out | refine below_alloc ?_ _ | refine pw_below_drewN ?_ _ | refine below_drew1 ?_)))).mono ?_; rintro e w' ⟨v, rfl, hv, hb⟩; obtain ⟨Au, cu, eu⟩ := Kd.R_slice hv; subst eu; clear hv; have HLn := Aside0.mk (below_step (show Below w.heap.size w _ from (by repeat (first | exact HL.out | refine below_alloc ?_ _ | refine pw_below_drewN ?_ _ | refine below_drew1 ?_))) hb); have BXn := Aside0.mk (Box.keep (by repeat (first | exact Below.refl _ _ | refine pw_below_drewN ?_ _ | refine below_drew1 ?_ | refine below_alloc ?_ _)) hb BX.out); have HBKn := Aside0.mk (blk_below (by repeat (first | exact HBK.out | refine blk_drewN ?_ _ | refine blk_drew ?_ | refine blk_alloc ?_ _)) hb); clear HL BX HBK; have HL := HLn; have BX := BXn; have HBK := HBKn; clear HLn BXn HBKn; have hgw := blk_below HG.out HL.out; have m0 := (blk_cell hgw 0).trans (show _ = some (Value.slice Ab bot.length cb) from rfl); have m1 := (blk_cell hgw 1).trans (show _ = some (Value.slice Al lays.length cl) from rfl); clear hgw; have m2 := BX.out 0 (.slice A1 l1.length c1) rfl; have m3 := BX.out 1 (.slice A2 l2.length c2) rfl; clear hb))
  go_wp2_with (fail)
  refine push_region _ _ g w.heap.size base w Ab Al cb cl bot lays A1 c1 l1 A2 c2 l2 _ rfl rfl rfl HBG.out HLL.out (fun W h1 h2 => HOW.out W h1 h2) ⟨(HL.out.mono HBW.out).drew, Nat.le_trans HBW.out HL.out.size, fun _ => blk_drew (blk_below HG.out HL.out), Kd.R_drew (Kd.R_below HRB.out HL.out), fun _ => ⟨blk_drew HBK.out, Kd.R_drew (Kd.R_below HRL.out HL.out), Kd.C_below (Kd.C_below HR1.out HL.out) (below_drew1 (Below.refl _ _)), Kd.C_below (Kd.C_below HR2.out HL.out) (below_drew1 (Below.refl _ _))⟩, fun b cs t h _ _ => blk_drew (blk_below h HL.out)⟩ ?_
  intro x w9 hb9 hg9 hrb hrl hfr
  obtain ⟨An, cn, en⟩ := Kd.R_slice hrl
  have HG9 := Aside0.mk hg9; have HRB9 := Aside0.mk hrb; have HRL9 := Aside0.mk hrl; have HB9 := Aside0.mk hb9; have HFR := Aside0.mk hfr; clear hg9 hrb hrl hb9 hfr
  simp only [pushOps, putAll]
  have HEN := Aside0.mk en; clear en
  go_wp2
  go_ret
  exact ⟨rfl, ⟨_, _, HG9.out, HBG.out, HRB9.out, HRL9.out⟩, HB9.out, fun b cs t h1 h2 h3 => HFR.out b cs t h1 h2 (h3 _ _ HG.out)⟩
end Go.Proofs.Ytdjamphmndbmjaa.M

/- slices.Grow of nil and slices.Concat of three, at []api.Layer (printed by wip/gen_ch5.py). -/
namespace Go.Proofs.Ytdjamphmndbmjaa.M
open Go.RowKit Go.Proofs.YtdjamphmndbmjaaW.PrintWords Go.Proofs.YtdjamphmndbmjaaW.PrintLast Go.Proofs.YtdjamphmndbmjaaW.PrintMore
set_option linter.unusedVariables false
set_option linter.unusedSimpArgs false

theorem M_below {α : Type} {d : Kd α} {w w1 : World} {base : Nat} {ok : Nat → Prop} {x : α} {cs : List Value} (h : d.M w base ok x cs) (hb : Below w.heap.size w w1) : d.M w1 base ok x cs :=
  d.M_mono (fun k hk => hk.1) (d.M_move (fun k hk => hb.block k hk.2.2.1) (d.M_bound h))
theorem M_off {α : Type} {d : Kd α} {e : Nat} {w : World} {base b2 : Nat} {ok ok2 : Nat → Prop} {x : α} {cs : List Value} {v : Value} {ys : List α} (h : d.M w base ok x cs) (hv : d.R e w b2 ok2 v ys) (hE : ∀ q, q ∈ d.E → q ≠ e) : d.M w base (fun k => True ∧ some k ≠ v.ownBlock) x cs :=
  d.M_mono (fun k hk => ⟨trivial, fun he => by
    obtain ⟨_, _, _, q, hq, c, hc⟩ := hk
    obtain ⟨c', hc'⟩ := Kd.R_typed hv k he.symm
    rw [hc] at hc'
    injection hc' with hc'
    injection hc' with _ ht _
    exact hE q hq ht⟩) (d.M_bound h)
theorem R_of_emptyL {w : World} {base g m c : Nat} {xs : List Value} (h : w.ownsRow base 69 2 (.slice (some ⟨g, 0, none⟩) m c) m xs) : Kd.R k69 69 w base (fun _ => True) (.slice (some ⟨g, 0, none⟩) 0 c) ([] : List S69) := by
  rcases h.2 with ⟨hv, _⟩ | ⟨g', cap, cur, hv, hb, hh, hnc, hcm, hcs, htk⟩
  · cases hv
  · injection hv with ha hn hc
    injection ha with ha
    injection ha with hg
    subst hg; subst hc
    exact ⟨fun _ _ => trivial, [], ⟨rfl, .inr ⟨g, c, cur, rfl, hb, hh, Nat.zero_le _, hcm, hcs, by simp⟩⟩, Reps.none _ _⟩
theorem zeros_oneL : ∀ j : Nat, Value.oneCell' ((Value.agg #[(.slice none 0 0), (.slice none 0 0)]).cells[j]!) = true := by
  intro j
  rcases j with _ | _ | j <;> rfl
set_option maxHeartbeats 4000000 in
set_option maxRecDepth 100000 in
theorem growL_calls (m : Nat) (w : World) (hm : m * 48 ≤ 140737488355328) :
    Calls Try.prog 90 #[.slice none 0 0, .int .i64 m] w fun e w' => (∃ v, e = .returned v ∧ Kd.R k69 69 w' w.heap.size (fun _ => True) v ([] : List S69)) ∧ Below w.heap.size w w' := by
  have h0 : ¬ (m : Int) < 0 := by omega
  rcases Nat.eq_zero_or_pos m with hz | hp
  · subst hz
    go_enter Try.func90, Try.ntmps90
    go_wp2
    go_ret
    exact ⟨⟨_, rfl, Kd.R_nil _ _ _ _ _⟩, Below.refl _ _⟩
  · have hpz : (m : Int) > 0 := by omega
    obtain ⟨i, hi, hz⟩ := Option.map_eq_some_iff.1 xinfoL
    have hz0 := congrArg Prod.fst hz
    have hz1 := congrArg (fun q => q.2.1) hz
    have hz2 := congrArg (fun q => q.2.2) hz
    obtain ⟨v', w', hrun, hown, hg, hat⟩ := run_append_zeros (P := Try.prog) w w.heap.size 114 3 114 69 i _ 2 48 Try.underlying114 Try.underlying3 hi hz0 hz1 hz2 rfl (by decide) (by decide) (.slice none 0 0) 0 [] ⟨rfl, .inl ⟨rfl, rfl⟩⟩ .i64 m (by
      intro u hu
      simp only [Builtin.zeroCells, Array.toList_map, List.mem_map] at hu
      obtain ⟨q, _, rfl⟩ := hu
      exact zeros_oneL _) (by omega) (Nat.le_refl _)
    obtain ⟨g, c, rfl⟩ : ∃ g c, v' = .slice (some ⟨g, 0, none⟩) m c := by
      rcases hown.2 with ⟨hv, h0⟩ | ⟨g', cap, cur, hv, _⟩
      · omega
      · exact ⟨g', cap, by rw [hv]; simp⟩
    have HRUN := Aside0.mk hrun
    rw [Nat.zero_add] at hown
    have HO := Aside0.mk (R_of_emptyL hown)
    have HB := Aside0.mk (Below.grown (Below.refl w.heap.size w) hg (Nat.le_refl _) (by simp [Value.ownBlock]))
    clear hrun hown hg hat hz hz0 hz1 hz2 hi
    go_enter Try.func90, Try.ntmps90
    go_wp2_with ((with_reducible refine gate_builtin (b := .append) (xs := #[.tmp 20, .tmp 21]) rfl ?_); at_builtin; refine append_event rfl (.tmp 20) (.tmp 21) 114 3 rfl (.slice none 0 0) (.int .i64 m) _ rfl rfl HRUN.out ?_)
    go_ret
    exact ⟨⟨_, rfl, HO.out⟩, HB.out⟩

set_option maxHeartbeats 8000000 in
set_option maxRecDepth 100000 in
theorem concatL_calls (g0 base : Nat) (A0 A1 A2 : Option Addr) (c0 c1 c2 : Nat) (l0 l1 l2 : List S69) (w : World) (h0 : w.cell? ⟨g0, 0, none⟩ = some (.slice A0 l0.length c0)) (h1 : w.cell? ⟨g0, 1, none⟩ = some (.slice A1 l1.length c1)) (h2 : w.cell? ⟨g0, 2, none⟩ = some (.slice A2 l2.length c2))
    (hr0 : ReadsRow (fun x cs => k69.M w base (fun _ => True) x cs) k69.sz w A0 l0.length l0) (hr1 : ReadsRow (fun x cs => k69.M w base (fun _ => True) x cs) k69.sz w A1 l1.length l1) (hr2 : ReadsRow (fun x cs => k69.M w base (fun _ => True) x cs) k69.sz w A2 l2.length l2) (hbase : base ≤ w.heap.size) (hm : l0.length + l1.length + l2.length ≤ 1000000) :
    Calls Try.prog 65 #[.slice (some ⟨g0, 0, none⟩) 3 3] w fun e w' => (∃ v, e = .returned v ∧ Kd.R k69 69 w' base (fun _ => True) v (l0 ++ l1 ++ l2)) ∧ Below w.heap.size w w' := by
  have HR0 := Aside0.mk hr0; have H0 := Aside0.mk h0
  have HR1 := Aside0.mk hr1; have H1 := Aside0.mk h1
  have HR2 := Aside0.mk hr2; have H2 := Aside0.mk h2
  have HBASE := Aside0.mk hbase; have HLN := Aside0.mk hm
  have hgrow := growL_calls (l0.length + l1.length + l2.length) w (by omega)
  have HGROW := Aside0.mk hgrow
  clear hr0 h0 hr1 h1 hr2 h2 hgrow hbase
  go_enter Try.func65, Try.ntmps65
  go_wp2
  go_loopg [3, 5, 11] 3 (fun gg s3 s5 s11 wr => wr = w ∧ ((s11 = .int .i64 0 ∧ s3 = .int .i64 (0 : Nat) ∧ gg = 3) ∨ (s11 = .int .i64 1 ∧ s3 = .int .i64 (l0.length : Nat) ∧ gg = 2) ∨ (s11 = .int .i64 2 ∧ s3 = .int .i64 (l0.length + l1.length : Nat) ∧ gg = 1) ∨ (s11 = .int .i64 3 ∧ s3 = .int .i64 (l0.length + l1.length + l2.length : Nat) ∧ gg = 0)))
  case atStart => exact ⟨rfl, .inl ⟨rfl, rfl, rfl⟩⟩
  case round =>
    obtain ⟨hw, hrel⟩ := hrel
    subst hw
    rcases hrel with ⟨rfl, rfl, rfl⟩ | ⟨rfl, rfl, rfl⟩ | ⟨rfl, rfl, rfl⟩ | ⟨rfl, rfl, rfl⟩
    · have h0 := H0.out
      go_wp2
      go_roundg 2
      case measure => omega
      case rel => exact ⟨rfl, .inr (.inl ⟨by go_num, by go_num, rfl⟩)⟩
    · have h1 := H1.out
      go_wp2
      go_roundg 1
      case measure => omega
      case rel => exact ⟨rfl, .inr (.inr (.inl ⟨by go_num, by go_num, rfl⟩))⟩
    · have h2 := H2.out
      go_wp2
      go_roundg 0
      case measure => omega
      case rel => exact ⟨rfl, .inr (.inr (.inr (⟨by go_num, by go_num, rfl⟩)))⟩
    · go_wp2_with (go_at_call 90; refine HGROW.out.mono ?_; rintro e w' ⟨⟨v, rfl, hv⟩, hb⟩; have HV := Aside0.mk (Kd.R_lower hv HBASE.out); have HVB := Aside0.mk (Kd.R_base hv); have HB := Aside0.mk hb; clear hv hb)
      obtain ⟨w0, hw0⟩ : ∃ w0, w0 = wr := ⟨_, rfl⟩
      subst hw0
      go_loopg [6, 8, 27] 3 (fun gg s6 s8 s27 w1 => Aside0 (Below w0.heap.size w0 w1) ∧ Aside0 (∀ k, s6.ownBlock = some k → w0.heap.size ≤ k) ∧ ((s27 = .int .i64 0 ∧ gg = 3 ∧ Aside0 (Kd.R k69 69 w1 base (fun _ => True) s6 ([] : List S69))) ∨ (s27 = .int .i64 1 ∧ gg = 2 ∧ Aside0 (Kd.R k69 69 w1 base (fun _ => True) s6 (l0))) ∨ (s27 = .int .i64 2 ∧ gg = 1 ∧ Aside0 (Kd.R k69 69 w1 base (fun _ => True) s6 (l0 ++ l1))) ∨ (s27 = .int .i64 3 ∧ gg = 0 ∧ Aside0 (Kd.R k69 69 w1 base (fun _ => True) s6 (l0 ++ l1 ++ l2)))))
      case atStart => exact ⟨HB, HVB, .inl ⟨rfl, rfl, HV⟩⟩
      case round =>
        obtain ⟨HB1, HVB1, hrel⟩ := hrel
        rcases hrel with ⟨rfl, rfl, HS⟩ | ⟨rfl, rfl, HS⟩ | ⟨rfl, rfl, HS⟩ | ⟨rfl, rfl, HS⟩
        · have h0 := (HB1.out.cell (World.block_lt_of_cell? _ _ H0.out)).trans H0.out
          obtain ⟨As, cs, es⟩ := Kd.R_slice HS.out
          subst es
          go_wp2_with ((with_reducible refine gate_builtin (b := .append) (xs := #[.tmp 31, .tmp 32]) rfl ?_); at_builtin; refine Kd.R_append_rows k69 (Rr := fun x cs => k69.M wr base (fun _ => True) x cs) (w0 := w0) base rfl (.tmp 31) (.tmp 32) 114 69 _ 48 rfl Try.underlying114 xinfoL rfl (by decide) (by decide) (.slice As (([] : List S69)).length cs) (([] : List S69)) l0 _ _ _ (fun _ => True) (fun q => True ∧ some q ≠ Value.ownBlock (.slice As (([] : List S69)).length cs)) rfl rfl ?aO ?aR (fun x c h => M_off h HS.out (by decide)) (fun _ h => h) ?aF ?aB ?aS ?aL ?_; (case aO => exact HS.out); (case aR => exact ReadsRow.imp_ HR0.out HB1.out (fun x c h => M_below h HB1.out)); (case aF => exact fun _ _ => trivial); (case aB => exact HB1.out.mono HBASE.out); (case aS => exact Nat.le_trans HBASE.out HB1.out.size); (case aL => have hlen := HLN.out; (try simp only [List.length_append, List.length_nil]); omega); intro v1 w2 hR hb hgr hat; have HO1 := Aside0.mk hR; have HB2 := Aside0.mk (Below.grown HB1.out hgr HB1.out.size HVB1.out); have HVB2 : Aside0 (∀ k, v1.ownBlock = some k → w0.heap.size ≤ k) := ⟨fun k hk => hat.elim (fun h => HVB1.out k (h ▸ hk)) (fun ⟨b, h, hle⟩ => by rw [h] at hk; injection hk with hk; subst hk; exact Nat.le_trans HB1.out.size hle)⟩; clear hR hb hgr hat; obtain ⟨An, cn, en⟩ := Kd.R_slice HO1.out; subst en)
          go_roundg 2
          case measure => omega
          case rel => exact ⟨HB2, HVB2, .inr (.inl ⟨by go_num, rfl, by simpa using HO1⟩)⟩
        · have h1 := (HB1.out.cell (World.block_lt_of_cell? _ _ H1.out)).trans H1.out
          obtain ⟨As, cs, es⟩ := Kd.R_slice HS.out
          subst es
          go_wp2_with ((with_reducible refine gate_builtin (b := .append) (xs := #[.tmp 31, .tmp 32]) rfl ?_); at_builtin; refine Kd.R_append_rows k69 (Rr := fun x cs => k69.M wr base (fun _ => True) x cs) (w0 := w0) base rfl (.tmp 31) (.tmp 32) 114 69 _ 48 rfl Try.underlying114 xinfoL rfl (by decide) (by decide) (.slice As (l0).length cs) (l0) l1 _ _ _ (fun _ => True) (fun q => True ∧ some q ≠ Value.ownBlock (.slice As (l0).length cs)) rfl rfl ?aO ?aR (fun x c h => M_off h HS.out (by decide)) (fun _ h => h) ?aF ?aB ?aS ?aL ?_; (case aO => exact HS.out); (case aR => exact ReadsRow.imp_ HR1.out HB1.out (fun x c h => M_below h HB1.out)); (case aF => exact fun _ _ => trivial); (case aB => exact HB1.out.mono HBASE.out); (case aS => exact Nat.le_trans HBASE.out HB1.out.size); (case aL => have hlen := HLN.out; (try simp only [List.length_append, List.length_nil]); omega); intro v1 w2 hR hb hgr hat; have HO1 := Aside0.mk hR; have HB2 := Aside0.mk (Below.grown HB1.out hgr HB1.out.size HVB1.out); have HVB2 : Aside0 (∀ k, v1.ownBlock = some k → w0.heap.size ≤ k) := ⟨fun k hk => hat.elim (fun h => HVB1.out k (h ▸ hk)) (fun ⟨b, h, hle⟩ => by rw [h] at hk; injection hk with hk; subst hk; exact Nat.le_trans HB1.out.size hle)⟩; clear hR hb hgr hat; obtain ⟨An, cn, en⟩ := Kd.R_slice HO1.out; subst en)
          go_roundg 1
          case measure => omega
          case rel => exact ⟨HB2, ⟨by have h := HVB2.out; simpa only [List.length_append, Nat.add_assoc] using h⟩, .inr (.inr (.inl ⟨by go_num, rfl, ⟨by have h := HO1.out; simpa only [List.length_append, Nat.add_assoc] using h⟩⟩))⟩
        · have h2 := (HB1.out.cell (World.block_lt_of_cell? _ _ H2.out)).trans H2.out
          obtain ⟨As, cs, es⟩ := Kd.R_slice HS.out
          subst es
          go_wp2_with ((with_reducible refine gate_builtin (b := .append) (xs := #[.tmp 31, .tmp 32]) rfl ?_); at_builtin; refine Kd.R_append_rows k69 (Rr := fun x cs => k69.M wr base (fun _ => True) x cs) (w0 := w0) base rfl (.tmp 31) (.tmp 32) 114 69 _ 48 rfl Try.underlying114 xinfoL rfl (by decide) (by decide) (.slice As (l0 ++ l1).length cs) (l0 ++ l1) l2 _ _ _ (fun _ => True) (fun q => True ∧ some q ≠ Value.ownBlock (.slice As (l0 ++ l1).length cs)) rfl rfl ?aO ?aR (fun x c h => M_off h HS.out (by decide)) (fun _ h => h) ?aF ?aB ?aS ?aL ?_; (case aO => exact HS.out); (case aR => exact ReadsRow.imp_ HR2.out HB1.out (fun x c h => M_below h HB1.out)); (case aF => exact fun _ _ => trivial); (case aB => exact HB1.out.mono HBASE.out); (case aS => exact Nat.le_trans HBASE.out HB1.out.size); (case aL => have hlen := HLN.out; (try simp only [List.length_append, List.length_nil]); omega); intro v1 w2 hR hb hgr hat; have HO1 := Aside0.mk hR; have HB2 := Aside0.mk (Below.grown HB1.out hgr HB1.out.size HVB1.out); have HVB2 : Aside0 (∀ k, v1.ownBlock = some k → w0.heap.size ≤ k) := ⟨fun k hk => hat.elim (fun h => HVB1.out k (h ▸ hk)) (fun ⟨b, h, hle⟩ => by rw [h] at hk; injection hk with hk; subst hk; exact Nat.le_trans HB1.out.size hle)⟩; clear hR hb hgr hat; obtain ⟨An, cn, en⟩ := Kd.R_slice HO1.out; subst en)
          go_roundg 0
          case measure => omega
          case rel => exact ⟨HB2, ⟨by have h := HVB2.out; simpa only [List.length_append, Nat.add_assoc] using h⟩, .inr (.inr (.inr (⟨by go_num, rfl, ⟨by have h := HO1.out; simpa only [List.length_append, Nat.add_assoc] using h⟩⟩)))⟩
        · obtain ⟨As, cs, es⟩ := Kd.R_slice HS.out
          subst es
          go_wp2
          go_ret
          refine ⟨⟨.slice As (l0.length + (l1.length + l2.length)) cs, rfl, ?_⟩, HB1.out⟩
          have h := HS.out
          simpa only [List.length_append, List.append_assoc, Nat.add_assoc] using h
end Go.Proofs.Ytdjamphmndbmjaa.M

/- Package chain: the last region of Squash, by what each of its operations makes (printed by wip/gen_ch6.py). -/
namespace Go.Proofs.Ytdjamphmndbmjaa.M
open Go.RowKit Go.Proofs.YtdjamphmndbmjaaW.PrintWords Go.Proofs.YtdjamphmndbmjaaW.PrintLast Go.Proofs.YtdjamphmndbmjaaW.PrintMore
set_option linter.unusedVariables false
set_option linter.unusedSimpArgs false

theorem add0 (b m : Nat) : Addr.add ⟨b, 0, none⟩ m = ⟨b, m, none⟩ := by simp [Addr.add]; intro h; exact h.symm
theorem RR_take {α : Type} {R : α → List Value → Prop} {size m : Nat} {w : World} {A : Option Addr} {xs : List α} (h : ReadsRow R size w A xs.length xs) (hm : m ≤ xs.length) : ReadsRow R size w A m (xs.take m) := by
  have hl : (xs.take m).length = m := by rw [List.length_take]; omega
  refine ⟨hl, by have := h.2.1; omega, fun hp => ?_⟩
  obtain ⟨ad, e, hc⟩ := h.2.2 (by omega)
  refine ⟨ad, e, fun j p hj => hc j p ?_⟩
  rw [List.getElem?_take] at hj
  split at hj
  · exact hj
  · cases hj
theorem RR_drop {α : Type} {R : α → List Value → Prop} {size m c : Nat} {w : World} {A : Option Addr} {xs : List α} (h : ReadsRow R size w A xs.length xs) (hm : m ≤ xs.length) (hc : xs.length ≤ c) : ReadsRow R size w (if c = m then A else A.map (·.add (m * size))) (xs.length - m) (xs.drop m) := by
  have hl : (xs.drop m).length = xs.length - m := List.length_drop
  refine ⟨hl, by have := h.2.1; omega, fun hp => ?_⟩
  obtain ⟨ad, rfl, hcell⟩ := h.2.2 (by omega)
  rw [if_neg (by omega)]
  refine ⟨ad.add (m * size), rfl, fun j p hj => ?_⟩
  rw [List.getElem?_drop] at hj
  obtain ⟨cs, h1, h2, h3⟩ := hcell (m + j) p hj
  refine ⟨cs, h1, h2, fun i u hu => ?_⟩
  rw [add_add, show m * size + (j * size + i) = (m + j) * size + i by rw [Nat.add_mul]; omega]
  exact h3 i u hu
theorem R_rows {w : World} {base b n c : Nat} {xs : List S69} (h : Kd.R k69 69 w base (fun _ => True) (.slice (some ⟨b, 0, none⟩) n c) xs) : ReadsRow (fun x cs => k69.M w base (fun _ => True) x cs) k69.sz w (some ⟨b, 0, none⟩) xs.length xs := by
  obtain ⟨hn, _, _⟩ := Kd.R_reads' h
  obtain ⟨_, inner, ho, hr⟩ := h
  obtain ⟨A, c', e, hR⟩ := own_reads_row ho (hr.imp_ (fun _ _ hq => k69.M_mono (fun _ _ => trivial) hq)) rfl
  injection e with ea _ _
  rw [ea]
  exact hR
def squashOps : Array Oper := #[{ dst := some 60, op := Op.move (Operand.tmp 0), type := 79, pos := "chain.go:97", after := #[], guard := none },
  { dst := some 61, op := Op.move (Operand.tmp 0), type := 79, pos := "chain.go:97", after := #[], guard := none },
  { dst := some 62, op := Op.nilCheck (Operand.tmp 61), type := 0, pos := "chain.go:97", after := #[{ on := 1, ground := Ground.data }], guard := none },
  { dst := some 63, op := Op.fieldAddr 116 (Operand.tmp 62) 1, type := 0, pos := "chain.go:97", after := #[{ on := 2, ground := Ground.data }], guard := none },
  { dst := some 64, op := Op.load 114 (Operand.tmp 63), type := 114, pos := "chain.go:97", after := #[{ on := 3, ground := Ground.data }], guard := none },
  { dst := some 65, op := Op.move (Operand.tmp 1), type := 3, pos := "chain.go:97", after := #[], guard := none },
  { dst := some 66, op := Op.binOp BinOp.sub 3 (Operand.tmp 65) (Operand.const (Value.int IntKind.i64 1)) 3, type := 3, pos := "chain.go:97", after := #[{ on := 5, ground := Ground.data }], guard := none },
  { dst := some 67, op := Op.slice 114 (Operand.tmp 64) none (some (Operand.tmp 66)) none, type := 114, pos := "chain.go:97", after := #[{ on := 4, ground := Ground.data }, { on := 6, ground := Ground.data }], guard := none },
  { dst := some 68, op := Op.load 69 (Operand.tmp 7), type := 69, pos := "chain.go:97", after := #[], guard := none },
  { dst := some 69, op := Op.call { callee := Callee.value (Operand.func 64), args := #[Operand.tmp 68], argTypes := #[69] }, type := 69, pos := "chain.go:97", after := #[{ on := 8, ground := Ground.data }], guard := none },
  { dst := some 70, op := Op.buildSlice 114 1 #[(0, Operand.tmp 69)], type := 114, pos := "chain.go:97", after := #[{ on := 9, ground := Ground.data }], guard := none },
  { dst := some 71, op := Op.move (Operand.tmp 0), type := 79, pos := "chain.go:97", after := #[], guard := none },
  { dst := some 72, op := Op.nilCheck (Operand.tmp 71), type := 0, pos := "chain.go:97", after := #[{ on := 11, ground := Ground.data }], guard := none },
  { dst := some 73, op := Op.fieldAddr 116 (Operand.tmp 72) 1, type := 0, pos := "chain.go:97", after := #[{ on := 12, ground := Ground.data }], guard := none },
  { dst := some 74, op := Op.load 114 (Operand.tmp 73), type := 114, pos := "chain.go:97", after := #[{ on := 13, ground := Ground.data }], guard := none },
  { dst := some 75, op := Op.move (Operand.tmp 2), type := 3, pos := "chain.go:97", after := #[], guard := none },
  { dst := some 76, op := Op.slice 114 (Operand.tmp 74) (some (Operand.tmp 75)) none none, type := 114, pos := "chain.go:97", after := #[{ on := 14, ground := Ground.data }, { on := 15, ground := Ground.data }], guard := none },
  { dst := some 77, op := Op.buildSlice 155 3 #[(0, Operand.tmp 67), (1, Operand.tmp 70), (2, Operand.tmp 76)], type := 155, pos := "chain.go:97", after := #[{ on := 7, ground := Ground.data }, { on := 10, ground := Ground.data }, { on := 16, ground := Ground.data }], guard := none },
  { dst := some 78, op := Op.call { callee := Callee.value (Operand.func 65), args := #[Operand.tmp 77], argTypes := #[155] }, type := 114, pos := "chain.go:97", after := #[{ on := 17, ground := Ground.data }, { on := 9, ground := Ground.chain }], guard := none },
  { dst := some 79, op := Op.nilCheck (Operand.tmp 60), type := 0, pos := "chain.go:97", after := #[{ on := 0, ground := Ground.data }, { on := 0, ground := Ground.phase }, { on := 1, ground := Ground.phase }, { on := 2, ground := Ground.phase }, { on := 3, ground := Ground.phase }, { on := 4, ground := Ground.phase }, { on := 5, ground := Ground.phase }, { on := 6, ground := Ground.phase }, { on := 7, ground := Ground.phase }, { on := 8, ground := Ground.phase }, { on := 9, ground := Ground.phase }, { on := 10, ground := Ground.phase }, { on := 11, ground := Ground.phase }, { on := 12, ground := Ground.phase }, { on := 13, ground := Ground.phase }, { on := 14, ground := Ground.phase }, { on := 15, ground := Ground.phase }, { on := 16, ground := Ground.phase }, { on := 17, ground := Ground.phase }, { on := 18, ground := Ground.phase }], guard := none },
  { dst := some 80, op := Op.fieldAddr 116 (Operand.tmp 79) 1, type := 0, pos := "chain.go:97", after := #[{ on := 19, ground := Ground.data }, { on := 0, ground := Ground.phase }, { on := 1, ground := Ground.phase }, { on := 2, ground := Ground.phase }, { on := 3, ground := Ground.phase }, { on := 4, ground := Ground.phase }, { on := 5, ground := Ground.phase }, { on := 6, ground := Ground.phase }, { on := 7, ground := Ground.phase }, { on := 8, ground := Ground.phase }, { on := 9, ground := Ground.phase }, { on := 10, ground := Ground.phase }, { on := 11, ground := Ground.phase }, { on := 12, ground := Ground.phase }, { on := 13, ground := Ground.phase }, { on := 14, ground := Ground.phase }, { on := 15, ground := Ground.phase }, { on := 16, ground := Ground.phase }, { on := 17, ground := Ground.phase }, { on := 18, ground := Ground.phase }], guard := none },
  { dst := none, op := Op.store 114 (Operand.tmp 80) (Operand.tmp 78), type := 0, pos := "chain.go:97", after := #[{ on := 20, ground := Ground.data }, { on := 18, ground := Ground.data }, { on := 18, ground := Ground.chain }, { on := 0, ground := Ground.phase }, { on := 1, ground := Ground.phase }, { on := 2, ground := Ground.phase }, { on := 3, ground := Ground.phase }, { on := 4, ground := Ground.phase }, { on := 5, ground := Ground.phase }, { on := 6, ground := Ground.phase }, { on := 7, ground := Ground.phase }, { on := 8, ground := Ground.phase }, { on := 9, ground := Ground.phase }, { on := 10, ground := Ground.phase }, { on := 11, ground := Ground.phase }, { on := 12, ground := Ground.phase }, { on := 13, ground := Ground.phase }, { on := 14, ground := Ground.phase }, { on := 15, ground := Ground.phase }, { on := 16, ground := Ground.phase }, { on := 17, ground := Ground.phase }, { on := 18, ground := Ground.phase }], guard := none }]
theorem squash_apart : (squashOps.toList.map (·.dst)).Pairwise fun d e => d = none ∨ d ≠ e := by decide +kernel
theorem squash_up : (List.range squashOps.size).all (fun i => (squashOps[i]?.map fun o => o.after.all fun e => !Region.binds .any e || decide (e.on < i)).getD true) = true := by decide +kernel
def squashR (g gb base bl : Nat) (w0 : World) (Ab AS : Option Addr) (cb cl fr tn : Nat) (q : Int) (bot : List S41) (lays : List S69) (A1 : Option Addr) (c1 : Nat) (l1 : List S41) (A2 : Option Addr) (c2 : Nat) (l2 : List S41) (x : Nat → Value) (i : Nat) (w : World) : Prop :=
  match i with
  | 0 => x 0 = .pointer (some ⟨g, 0, none⟩)
  | 1 => x 1 = .pointer (some ⟨g, 0, none⟩)
  | 2 => x 2 = .pointer (some ⟨g, 0, none⟩)
  | 3 => x 3 = .pointer (some ⟨g, 1, none⟩)
  | 4 => x 4 = (.slice (some ⟨bl, 0, none⟩) lays.length cl)
  | 5 => x 5 = .int .i64 q
  | 6 => x 6 = .int .i64 (fr : Int)
  | 7 => x 7 = .slice (some ⟨bl, 0, none⟩) fr cl
  | 8 => x 8 = .agg #[.slice A1 l1.length c1, .slice A2 l2.length c2]
  | 9 => LRow w base (x 9) l1 l2
  | 10 => ∃ b v1 v2, x 10 = .slice (some ⟨b, 0, none⟩) 1 1 ∧ x 9 = .agg #[v1, v2] ∧ w.heap[b]? = some (.cells #[v1, v2] 69 (0, 0))
  | 11 => x 11 = .pointer (some ⟨g, 0, none⟩)
  | 12 => x 12 = .pointer (some ⟨g, 0, none⟩)
  | 13 => x 13 = .pointer (some ⟨g, 1, none⟩)
  | 14 => x 14 = (.slice (some ⟨bl, 0, none⟩) lays.length cl)
  | 15 => x 15 = .int .i64 (tn : Int)
  | 16 => x 16 = .slice AS (lays.length - tn) (cl - tn)
  | 17 => ∃ b2 b v1 v2, x 17 = .slice (some ⟨b2, 0, none⟩) 3 3 ∧ w.heap[b2]? = some (.cells #[.slice (some ⟨bl, 0, none⟩) fr cl, .slice (some ⟨b, 0, none⟩) 1 1, .slice AS (lays.length - tn) (cl - tn)] 114 (0, 0)) ∧ x 9 = .agg #[v1, v2] ∧ w.heap[b]? = some (.cells #[v1, v2] 69 (0, 0))
  | 18 => Kd.R k69 69 w base (fun _ => True) (x 18) (lays.take fr ++ [⟨l1, l2⟩] ++ lays.drop tn)
  | 19 => x 19 = .pointer (some ⟨g, 0, none⟩)
  | 20 => x 20 = .pointer (some ⟨g, 1, none⟩)
  | 21 => w.heap[g]? = some (.cells #[(.slice Ab bot.length cb), x 18] 116 (0, 0))
  | _ => True
def squashJ (g gb base bl : Nat) (w0 : World) (Ab AS : Option Addr) (cb cl fr tn : Nat) (q : Int) (bot : List S41) (lays : List S69) (A1 : Option Addr) (c1 : Nat) (l1 : List S41) (A2 : Option Addr) (c2 : Nat) (l2 : List S41) (u21 : Bool) (w : World) : Prop := Below base w0 w ∧ base ≤ w.heap.size ∧ (u21 = false → w.heap[g]? = some (.cells #[(.slice Ab bot.length cb), (.slice (some ⟨bl, 0, none⟩) lays.length cl)] 116 (0, 0))) ∧ Kd.R k41 41 w base (fun _ => True) (.slice Ab bot.length cb) bot ∧ (u21 = false → w.heap[gb]? = some (.cells #[.slice A1 l1.length c1, .slice A2 l2.length c2] 69 (0, 0)) ∧ Kd.R k69 69 w base (fun _ => True) (.slice (some ⟨bl, 0, none⟩) lays.length cl) lays ∧ Kd.C k41 w A1 l1.length l1 ∧ Kd.C k41 w A2 l2.length l2)
theorem squash_Rx (g gb base bl : Nat) (w0 : World) (Ab AS : Option Addr) (cb cl fr tn : Nat) (q : Int) (bot : List S41) (lays : List S69) (A1 : Option Addr) (c1 : Nat) (l1 : List S41) (A2 : Option Addr) (c2 : Nat) (l2 : List S41) (x : Nat → Value) (y : Value) (i k : Nat) (w : World) (hd : ¬ Dep squashOps i k) (h : squashR g gb base bl w0 Ab AS cb cl fr tn q bot lays A1 c1 l1 A2 c2 l2 x i w) : squashR g gb base bl w0 Ab AS cb cl fr tn q bot lays A1 c1 l1 A2 c2 l2 (upd x k y) i w := by
  have hi : i ≠ k := fun e => hd (e ▸ Dep.refl _)
  rcases i with _ | _ | _ | _ | _ | _ | _ | _ | _ | _ | _ | _ | _ | _ | _ | _ | _ | _ | _ | _ | _ | _ | i
  ·
    have e0 : upd x k y 0 = x 0 := upd_ne x y (hi)
    unfold squashR at h ⊢
    simp only [e0]
    exact h
  ·
    have e1 : upd x k y 1 = x 1 := upd_ne x y (hi)
    unfold squashR at h ⊢
    simp only [e1]
    exact h
  ·
    have e2 : upd x k y 2 = x 2 := upd_ne x y (hi)
    unfold squashR at h ⊢
    simp only [e2]
    exact h
  ·
    have e3 : upd x k y 3 = x 3 := upd_ne x y (hi)
    unfold squashR at h ⊢
    simp only [e3]
    exact h
  ·
    have e4 : upd x k y 4 = x 4 := upd_ne x y (hi)
    unfold squashR at h ⊢
    simp only [e4]
    exact h
  ·
    have e5 : upd x k y 5 = x 5 := upd_ne x y (hi)
    unfold squashR at h ⊢
    simp only [e5]
    exact h
  ·
    have e6 : upd x k y 6 = x 6 := upd_ne x y (hi)
    unfold squashR at h ⊢
    simp only [e6]
    exact h
  ·
    have e7 : upd x k y 7 = x 7 := upd_ne x y (hi)
    unfold squashR at h ⊢
    simp only [e7]
    exact h
  ·
    have e8 : upd x k y 8 = x 8 := upd_ne x y (hi)
    unfold squashR at h ⊢
    simp only [e8]
    exact h
  ·
    have e9 : upd x k y 9 = x 9 := upd_ne x y (hi)
    unfold squashR at h ⊢
    simp only [e9]
    exact h
  ·
    have e9 : upd x k y 9 = x 9 := upd_ne x y (fun e => hd (e ▸ dep_of 1 (by decide +kernel)))
    have e10 : upd x k y 10 = x 10 := upd_ne x y (hi)
    unfold squashR at h ⊢
    simp only [e9, e10]
    exact h
  ·
    have e11 : upd x k y 11 = x 11 := upd_ne x y (hi)
    unfold squashR at h ⊢
    simp only [e11]
    exact h
  ·
    have e12 : upd x k y 12 = x 12 := upd_ne x y (hi)
    unfold squashR at h ⊢
    simp only [e12]
    exact h
  ·
    have e13 : upd x k y 13 = x 13 := upd_ne x y (hi)
    unfold squashR at h ⊢
    simp only [e13]
    exact h
  ·
    have e14 : upd x k y 14 = x 14 := upd_ne x y (hi)
    unfold squashR at h ⊢
    simp only [e14]
    exact h
  ·
    have e15 : upd x k y 15 = x 15 := upd_ne x y (hi)
    unfold squashR at h ⊢
    simp only [e15]
    exact h
  ·
    have e16 : upd x k y 16 = x 16 := upd_ne x y (hi)
    unfold squashR at h ⊢
    simp only [e16]
    exact h
  ·
    have e9 : upd x k y 9 = x 9 := upd_ne x y (fun e => hd (e ▸ dep_of 2 (by decide +kernel)))
    have e17 : upd x k y 17 = x 17 := upd_ne x y (hi)
    unfold squashR at h ⊢
    simp only [e9, e17]
    exact h
  ·
    have e18 : upd x k y 18 = x 18 := upd_ne x y (hi)
    unfold squashR at h ⊢
    simp only [e18]
    exact h
  ·
    have e19 : upd x k y 19 = x 19 := upd_ne x y (hi)
    unfold squashR at h ⊢
    simp only [e19]
    exact h
  ·
    have e20 : upd x k y 20 = x 20 := upd_ne x y (hi)
    unfold squashR at h ⊢
    simp only [e20]
    exact h
  ·
    have e18 : upd x k y 18 = x 18 := upd_ne x y (fun e => hd (e ▸ dep_of 1 (by decide +kernel)))
    unfold squashR at h ⊢
    simp only [e18]
    exact h
  · unfold squashR; trivial
set_option maxHeartbeats 8000000 in
set_option maxRecDepth 100000 in
theorem squash_region (a : Act) (W : World) (g gb base bl : Nat) (w0 : World) (Ab AS : Option Addr) (cb cl fr tn : Nat) (q : Int) (bot : List S41) (lays : List S69) (A1 : Option Addr) (c1 : Nat) (l1 : List S41) (A2 : Option Addr) (c2 : Nat) (l2 : List S41) (Q : Exit → Act → World → Prop) (hsz : a.tmps.size = 81) (t0 : a.tmps.getD 0 undef = .pointer (some ⟨g, 0, none⟩)) (t1 : a.tmps.getD 1 undef = .int .i64 q) (t2 : a.tmps.getD 2 undef = .int .i64 (tn : Int)) (t7 : a.tmps.getD 7 undef = .pointer (some ⟨gb, 0, none⟩)) (hbg : base ≤ g) (hq : IntKind.i64.wrap (q - 1) = (fr : Int)) (hfn : fr ≤ lays.length) (htn : tn ≤ lays.length) (hnc : lays.length ≤ cl) (hlm : lays.length ≤ 1000) (hAS : AS = if cl = tn then some ⟨bl, 0, none⟩ else some ⟨bl, tn * 2, none⟩)
    (how : ∀ W', Kd.C k41 W' A1 l1.length l1 → Kd.C k41 W' A2 l2.length l2 → Calls Try.prog 64 #[.agg #[.slice A1 l1.length c1, .slice A2 l2.length c2]] W' fun e w' => ∃ v, e = .returned v ∧ LRow w' W'.heap.size v l1 l2 ∧ Below W'.heap.size W' w')
    (hJ0 : squashJ g gb base bl w0 Ab AS cb cl fr tn q bot lays A1 c1 l1 A2 c2 l2 false W.drew)
    (hend : ∀ x w', Below base w0 w' → w'.heap[g]? = some (.cells #[(.slice Ab bot.length cb), x 18] 116 (0, 0)) → Kd.R k41 41 w' base (fun _ => True) (.slice Ab bot.length cb) bot → Kd.R k69 69 w' base (fun _ => True) (x 18) (lays.take fr ++ [⟨l1, l2⟩] ++ lays.drop tn) → Q .normal (putAll a x squashOps.toList 0) w') :
    (Code.region 12 squashOps true).wp Try.prog Q a W := by
  have mixed : Try.prog.follows .mixedOrders = true := by kernel_rfl
  refine region_J mixed (fun up w => squashJ g gb base bl w0 Ab AS cb cl fr tn q bot lays A1 c1 l1 A2 c2 l2 (up 21) w) (squashR g gb base bl w0 Ab AS cb cl fr tn q bot lays A1 c1 l1 A2 c2 l2) hJ0 squash_apart squash_up (squash_Rx g gb base bl w0 Ab AS cb cl fr tn q bot lays A1 c1 l1 A2 c2 l2) ?_ ?_
  · intro up x i oi w' hoi hui hcl hJ hdep K hK
    have hget := fun (i d : Nat) (o : Oper) (ho : squashOps.toList[i]? = some o) (hd : o.dst = some d) (hs : d < a.tmps.size) => putAll_get a x squashOps.toList 0 i d o ho hd hs squash_apart
    have e0 : (putAll a x squashOps.toList 0).tmps.getD 0 undef = .pointer (some ⟨g, 0, none⟩) := (putAll_other a x squashOps.toList 0 0 (by decide +kernel)).trans t0
    have e1 : (putAll a x squashOps.toList 0).tmps.getD 1 undef = .int .i64 q := (putAll_other a x squashOps.toList 0 1 (by decide +kernel)).trans t1
    have e2 : (putAll a x squashOps.toList 0).tmps.getD 2 undef = .int .i64 (tn : Int) := (putAll_other a x squashOps.toList 0 2 (by decide +kernel)).trans t2
    have e7 : (putAll a x squashOps.toList 0).tmps.getD 7 undef = .pointer (some ⟨gb, 0, none⟩) := (putAll_other a x squashOps.toList 0 7 (by decide +kernel)).trans t7
    have keep : ∀ w'', Below w'.heap.size w' w'' → ∀ j, squashR g gb base bl w0 Ab AS cb cl fr tn q bot lays A1 c1 l1 A2 c2 l2 x j w' → squashR g gb base bl w0 Ab AS cb cl fr tn q bot lays A1 c1 l1 A2 c2 l2 x j w'' := by
      intro w'' hb j hj
      rcases j with _ | _ | _ | _ | _ | _ | _ | _ | _ | _ | _ | _ | _ | _ | _ | _ | _ | _ | _ | _ | _ | _ | j
      · exact hj
      · exact hj
      · exact hj
      · exact hj
      · exact hj
      · exact hj
      · exact hj
      · exact hj
      · exact hj
      · obtain ⟨v1, v2, q1, q2, q3⟩ := hj; exact ⟨v1, v2, q1, Kd.R_below q2 hb, Kd.R_below q3 hb⟩
      · obtain ⟨b, v1, v2, q1, q2, q3⟩ := hj; exact ⟨b, v1, v2, q1, q2, blk_below q3 hb⟩
      · exact hj
      · exact hj
      · exact hj
      · exact hj
      · exact hj
      · exact hj
      · obtain ⟨b2, b, v1, v2, q1, q2, q3, q4⟩ := hj; exact ⟨b2, b, v1, v2, q1, blk_below q2 hb, q3, blk_below q4 hb⟩
      · exact Kd.R_below hj hb
      · exact hj
      · exact hj
      · exact blk_below hj hb
      · exact trivial
    have jb : ∀ w'', Below w'.heap.size w' w'' → squashJ g gb base bl w0 Ab AS cb cl fr tn q bot lays A1 c1 l1 A2 c2 l2 (up 21) w'' := by
      intro w'' hb
      obtain ⟨j1, j2, j3, j4, j5⟩ := hJ
      exact ⟨j1.trans (hb.mono j2), Nat.le_trans j2 hb.size, fun h => blk_below (j3 h) hb, Kd.R_below j4 hb, fun h => by obtain ⟨q1, q2, q3, q4⟩ := j5 h; exact ⟨blk_below q1 hb, Kd.R_below q2 hb, Kd.C_below q3 hb, Kd.C_below q4 hb⟩⟩
    rcases i with _ | _ | _ | _ | _ | _ | _ | _ | _ | _ | _ | _ | _ | _ | _ | _ | _ | _ | _ | _ | _ | _ | i
    · injection hoi with hoi; subst hoi
      generalize putAll a x squashOps.toList 0 = A at *
      have hrun : (execOp A.eval { dst := some 60, op := Op.move (Operand.tmp 0), type := 79, pos := "chain.go:97", after := #[], guard := none }).run Try.prog w' = .ok (.value (.pointer (some ⟨g, 0, none⟩))) w' := by
        have fa0 : A.tmps.getD 0 undef = .pointer (some ⟨g, 0, none⟩) := e0
        have fb0 : A.tmps[0]?.getD undef = .pointer (some ⟨g, 0, none⟩) := by rw [← Array.getD_eq_getD_getElem?]; exact fa0
        clear hK keep hget hdep jb hcl e0 e1 e2 e7; go_simp
      exact event_step rfl hrun (hK.out _ _ hJ (fun j _ _ hj => hj) (upd_at _ _ _))
    · injection hoi with hoi; subst hoi
      generalize putAll a x squashOps.toList 0 = A at *
      have hrun : (execOp A.eval { dst := some 61, op := Op.move (Operand.tmp 0), type := 79, pos := "chain.go:97", after := #[], guard := none }).run Try.prog w' = .ok (.value (.pointer (some ⟨g, 0, none⟩))) w' := by
        have fa0 : A.tmps.getD 0 undef = .pointer (some ⟨g, 0, none⟩) := e0
        have fb0 : A.tmps[0]?.getD undef = .pointer (some ⟨g, 0, none⟩) := by rw [← Array.getD_eq_getD_getElem?]; exact fa0
        clear hK keep hget hdep jb hcl e0 e1 e2 e7; go_simp
      exact event_step rfl hrun (hK.out _ _ hJ (fun j _ _ hj => hj) (upd_at _ _ _))
    · injection hoi with hoi; subst hoi
      have d1 : squashR g gb base bl w0 Ab AS cb cl fr tn q bot lays A1 c1 l1 A2 c2 l2 x 1 w' := (hdep { on := 1, ground := Ground.data } (by simp [squashOps]) rfl).2
      have e61 : (putAll a x squashOps.toList 0).tmps.getD 61 undef = x 1 := by have h := hget 1 61 _ (show squashOps.toList[1]? = some _ from rfl) rfl (by rw [hsz]; decide); rw [Nat.zero_add] at h; exact h
      generalize putAll a x squashOps.toList 0 = A at *
      have hrun : (execOp A.eval { dst := some 62, op := Op.nilCheck (Operand.tmp 61), type := 0, pos := "chain.go:97", after := #[{ on := 1, ground := Ground.data }], guard := none }).run Try.prog w' = .ok (.value (.pointer (some ⟨g, 0, none⟩))) w' := by
        have fa61 : A.tmps.getD 61 undef = .pointer (some ⟨g, 0, none⟩) := e61.trans d1
        have fb61 : A.tmps[61]?.getD undef = .pointer (some ⟨g, 0, none⟩) := by rw [← Array.getD_eq_getD_getElem?]; exact fa61
        clear hK keep hget hdep jb hcl e0 e1 e2 e7 e61; go_simp
      exact event_step rfl hrun (hK.out _ _ hJ (fun j _ _ hj => hj) (upd_at _ _ _))
    · injection hoi with hoi; subst hoi
      have d2 : squashR g gb base bl w0 Ab AS cb cl fr tn q bot lays A1 c1 l1 A2 c2 l2 x 2 w' := (hdep { on := 2, ground := Ground.data } (by simp [squashOps]) rfl).2
      have e62 : (putAll a x squashOps.toList 0).tmps.getD 62 undef = x 2 := by have h := hget 2 62 _ (show squashOps.toList[2]? = some _ from rfl) rfl (by rw [hsz]; decide); rw [Nat.zero_add] at h; exact h
      generalize putAll a x squashOps.toList 0 = A at *
      have hrun : (execOp A.eval { dst := some 63, op := Op.fieldAddr 116 (Operand.tmp 62) 1, type := 0, pos := "chain.go:97", after := #[{ on := 2, ground := Ground.data }], guard := none }).run Try.prog w' = .ok (.value (.pointer (some ⟨g, 1, none⟩))) w' := by
        have fa62 : A.tmps.getD 62 undef = .pointer (some ⟨g, 0, none⟩) := e62.trans d2
        have fb62 : A.tmps[62]?.getD undef = .pointer (some ⟨g, 0, none⟩) := by rw [← Array.getD_eq_getD_getElem?]; exact fa62
        clear hK keep hget hdep jb hcl e0 e1 e2 e7 e62; go_simp
      exact event_step rfl hrun (hK.out _ _ hJ (fun j _ _ hj => hj) (upd_at _ _ _))
    · injection hoi with hoi; subst hoi
      have j1 := hJ.1; have j2 := hJ.2.1; have j3 := hJ.2.2.1; have j4 := hJ.2.2.2.1; have j5 := hJ.2.2.2.2
      have q0 := j5 (hcl 21 (dep_of 1 (by decide +kernel)))
      have q1 := q0.1; have q2 := q0.2.1; have q3 := q0.2.2.1; have q4 := q0.2.2.2; clear q0
      have hgw := j3 (hcl 21 (dep_of 1 (by decide +kernel)))
      have d3 : squashR g gb base bl w0 Ab AS cb cl fr tn q bot lays A1 c1 l1 A2 c2 l2 x 3 w' := (hdep { on := 3, ground := Ground.data } (by simp [squashOps]) rfl).2
      have e63 : (putAll a x squashOps.toList 0).tmps.getD 63 undef = x 3 := by have h := hget 3 63 _ (show squashOps.toList[3]? = some _ from rfl) rfl (by rw [hsz]; decide); rw [Nat.zero_add] at h; exact h
      generalize putAll a x squashOps.toList 0 = A at *
      have hrun : (execOp A.eval { dst := some 64, op := Op.load 114 (Operand.tmp 63), type := 114, pos := "chain.go:97", after := #[{ on := 3, ground := Ground.data }], guard := none }).run Try.prog w' = .ok (.value ((.slice (some ⟨bl, 0, none⟩) lays.length cl))) w' := by
        have fa63 : A.tmps.getD 63 undef = .pointer (some ⟨g, 1, none⟩) := e63.trans d3
        have fb63 : A.tmps[63]?.getD undef = .pointer (some ⟨g, 1, none⟩) := by rw [← Array.getD_eq_getD_getElem?]; exact fa63
        have m1 := (blk_cell hgw 1).trans (show _ = some (Value.slice (some ⟨bl, 0, none⟩) lays.length cl) from rfl)
        clear j1 j2 j3 j4 j5 hgw q1 q2 q3 q4
        clear hK keep hget hdep jb hcl e0 e1 e2 e7 e63; go_simp
      exact event_step rfl hrun (hK.out _ _ hJ (fun j _ _ hj => hj) (upd_at _ _ _))
    · injection hoi with hoi; subst hoi
      generalize putAll a x squashOps.toList 0 = A at *
      have hrun : (execOp A.eval { dst := some 65, op := Op.move (Operand.tmp 1), type := 3, pos := "chain.go:97", after := #[], guard := none }).run Try.prog w' = .ok (.value (.int .i64 q)) w' := by
        have fa1 : A.tmps.getD 1 undef = .int .i64 q := e1
        have fb1 : A.tmps[1]?.getD undef = .int .i64 q := by rw [← Array.getD_eq_getD_getElem?]; exact fa1
        clear hK keep hget hdep jb hcl e0 e1 e2 e7; go_simp
      exact event_step rfl hrun (hK.out _ _ hJ (fun j _ _ hj => hj) (upd_at _ _ _))
    · injection hoi with hoi; subst hoi
      have d5 : squashR g gb base bl w0 Ab AS cb cl fr tn q bot lays A1 c1 l1 A2 c2 l2 x 5 w' := (hdep { on := 5, ground := Ground.data } (by simp [squashOps]) rfl).2
      have e65 : (putAll a x squashOps.toList 0).tmps.getD 65 undef = x 5 := by have h := hget 5 65 _ (show squashOps.toList[5]? = some _ from rfl) rfl (by rw [hsz]; decide); rw [Nat.zero_add] at h; exact h
      generalize putAll a x squashOps.toList 0 = A at *
      have hrun : (execOp A.eval { dst := some 66, op := Op.binOp BinOp.sub 3 (Operand.tmp 65) (Operand.const (Value.int IntKind.i64 1)) 3, type := 3, pos := "chain.go:97", after := #[{ on := 5, ground := Ground.data }], guard := none }).run Try.prog w' = .ok (.value (.int .i64 (fr : Int))) w' := by
        have fa65 : A.tmps.getD 65 undef = .int .i64 q := e65.trans d5
        have fb65 : A.tmps[65]?.getD undef = .int .i64 q := by rw [← Array.getD_eq_getD_getElem?]; exact fa65
        have hq2 := hq
        clear hK keep hget hdep jb hcl e0 e1 e2 e7 e65; go_simp
      exact event_step rfl hrun (hK.out _ _ hJ (fun j _ _ hj => hj) (upd_at _ _ _))
    · injection hoi with hoi; subst hoi
      have d4 : squashR g gb base bl w0 Ab AS cb cl fr tn q bot lays A1 c1 l1 A2 c2 l2 x 4 w' := (hdep { on := 4, ground := Ground.data } (by simp [squashOps]) rfl).2
      have e64 : (putAll a x squashOps.toList 0).tmps.getD 64 undef = x 4 := by have h := hget 4 64 _ (show squashOps.toList[4]? = some _ from rfl) rfl (by rw [hsz]; decide); rw [Nat.zero_add] at h; exact h
      have d6 : squashR g gb base bl w0 Ab AS cb cl fr tn q bot lays A1 c1 l1 A2 c2 l2 x 6 w' := (hdep { on := 6, ground := Ground.data } (by simp [squashOps]) rfl).2
      have e66 : (putAll a x squashOps.toList 0).tmps.getD 66 undef = x 6 := by have h := hget 6 66 _ (show squashOps.toList[6]? = some _ from rfl) rfl (by rw [hsz]; decide); rw [Nat.zero_add] at h; exact h
      generalize putAll a x squashOps.toList 0 = A at *
      have hrun : (execOp A.eval { dst := some 67, op := Op.slice 114 (Operand.tmp 64) none (some (Operand.tmp 66)) none, type := 114, pos := "chain.go:97", after := #[{ on := 4, ground := Ground.data }, { on := 6, ground := Ground.data }], guard := none }).run Try.prog w' = .ok (.value (.slice (some ⟨bl, 0, none⟩) fr cl)) w' := by
        have fa64 : A.tmps.getD 64 undef = (.slice (some ⟨bl, 0, none⟩) lays.length cl) := e64.trans d4
        have fb64 : A.tmps[64]?.getD undef = (.slice (some ⟨bl, 0, none⟩) lays.length cl) := by rw [← Array.getD_eq_getD_getElem?]; exact fa64
        have fa66 : A.tmps.getD 66 undef = .int .i64 (fr : Int) := e66.trans d6
        have fb66 : A.tmps[66]?.getD undef = .int .i64 (fr : Int) := by rw [← Array.getD_eq_getD_getElem?]; exact fa66
        have b0 : (0 : Int) ≤ (fr : Int) := Int.natCast_nonneg _
        have b1 : (fr : Int) ≤ (cl : Int) := by omega
        have hu := Try.underlying114
        clear hK keep hget hdep jb hcl e0 e1 e2 e7 e64 e66; go_simp
      exact event_step rfl hrun (hK.out _ _ hJ (fun j _ _ hj => hj) (upd_at _ _ _))
    · injection hoi with hoi; subst hoi
      have j1 := hJ.1; have j2 := hJ.2.1; have j3 := hJ.2.2.1; have j4 := hJ.2.2.2.1; have j5 := hJ.2.2.2.2
      have q0 := j5 (hcl 21 (dep_of 1 (by decide +kernel)))
      have q1 := q0.1; have q2 := q0.2.1; have q3 := q0.2.2.1; have q4 := q0.2.2.2; clear q0
      have hgw := j3 (hcl 21 (dep_of 1 (by decide +kernel)))
      generalize putAll a x squashOps.toList 0 = A at *
      have hrun : (execOp A.eval { dst := some 68, op := Op.load 69 (Operand.tmp 7), type := 69, pos := "chain.go:97", after := #[], guard := none }).run Try.prog w' = .ok (.value (.agg #[.slice A1 l1.length c1, .slice A2 l2.length c2])) w' := by
        have fa7 : A.tmps.getD 7 undef = .pointer (some ⟨gb, 0, none⟩) := e7
        have fb7 : A.tmps[7]?.getD undef = .pointer (some ⟨gb, 0, none⟩) := by rw [← Array.getD_eq_getD_getElem?]; exact fa7
        have m0 := (blk_cell q1 0).trans (show _ = some (.slice A1 l1.length c1) from rfl); have m1 := (blk_cell q1 1).trans (show _ = some (.slice A2 l2.length c2) from rfl)
        have hu := Try.underlying69
        clear j1 j2 j3 j4 j5 hgw q1 q2 q3 q4
        clear hK keep hget hdep jb hcl e0 e1 e2 e7; go_simp
      exact event_step rfl hrun (hK.out _ _ hJ (fun j _ _ hj => hj) (upd_at _ _ _))
    · injection hoi with hoi; subst hoi
      have j1 := hJ.1; have j2 := hJ.2.1; have j3 := hJ.2.2.1; have j4 := hJ.2.2.2.1; have j5 := hJ.2.2.2.2
      have q0 := j5 (hcl 21 (dep_of 1 (by decide +kernel)))
      have q1 := q0.1; have q2 := q0.2.1; have q3 := q0.2.2.1; have q4 := q0.2.2.2; clear q0
      have hgw := j3 (hcl 21 (dep_of 1 (by decide +kernel)))
      have d8 : squashR g gb base bl w0 Ab AS cb cl fr tn q bot lays A1 c1 l1 A2 c2 l2 x 8 w' := (hdep { on := 8, ground := Ground.data } (by simp [squashOps]) rfl).2
      have e68 : (putAll a x squashOps.toList 0).tmps.getD 68 undef = x 8 := by have h := hget 8 68 _ (show squashOps.toList[8]? = some _ from rfl) rfl (by rw [hsz]; decide); rw [Nat.zero_add] at h; exact h
      generalize putAll a x squashOps.toList 0 = A at *
      refine goes_ Try.func64 (by kernel_rfl) rfl #[.agg #[.slice A1 l1.length c1, .slice A2 l2.length c2]] rfl rfl rfl (by have q1 : A.eval (.tmp 68) = .agg #[.slice A1 l1.length c1, .slice A2 l2.length c2] := e68.trans d8; simp only [List.map_toArray, List.map_cons, List.map_nil, q1]) ((how w' q3 q4).mono ?_)
      rintro e w'' ⟨v, rfl, hv, hb⟩
      refine ⟨v, rfl, hK.out _ _ (jb _ hb) (fun j _ _ hj => keep _ hb j hj) ?_⟩
      show LRow w'' base (upd x 9 v 9) l1 l2
      rw [upd_at]
      exact hv.lower j2
    · injection hoi with hoi; subst hoi
      have j1 := hJ.1; have j2 := hJ.2.1; have j3 := hJ.2.2.1; have j4 := hJ.2.2.2.1; have j5 := hJ.2.2.2.2
      have q0 := j5 (hcl 21 (dep_of 1 (by decide +kernel)))
      have q1 := q0.1; have q2 := q0.2.1; have q3 := q0.2.2.1; have q4 := q0.2.2.2; clear q0
      have hgw := j3 (hcl 21 (dep_of 1 (by decide +kernel)))
      have d9 : squashR g gb base bl w0 Ab AS cb cl fr tn q bot lays A1 c1 l1 A2 c2 l2 x 9 w' := (hdep { on := 9, ground := Ground.data } (by simp [squashOps]) rfl).2
      have e69 : (putAll a x squashOps.toList 0).tmps.getD 69 undef = x 9 := by have h := hget 9 69 _ (show squashOps.toList[9]? = some _ from rfl) rfl (by rw [hsz]; decide); rw [Nat.zero_add] at h; exact h
      generalize putAll a x squashOps.toList 0 = A at *
      obtain ⟨v1, v2, ev, hv1, hv2⟩ := id d9
      obtain ⟨Ax, cx, ex⟩ := Kd.R_slice hv1; obtain ⟨Ay, cy, ey⟩ := Kd.R_slice hv2
      subst ex; subst ey
      have hrun : (execOp A.eval { dst := some 70, op := Op.buildSlice 114 1 #[(0, Operand.tmp 69)], type := 114, pos := "chain.go:97", after := #[{ on := 9, ground := Ground.data }], guard := none }).run Try.prog w' = .ok (.value (.slice (some ⟨w'.heap.size, 0, none⟩) 1 1)) (w'.alloc (.cells #[.slice Ax l1.length cx, .slice Ay l2.length cy] 69 (0, 0))) := by
        have fa69 : A.tmps.getD 69 undef = .agg #[.slice Ax l1.length cx, .slice Ay l2.length cy] := e69.trans ev
        have fb69 : A.tmps[69]?.getD undef = .agg #[.slice Ax l1.length cx, .slice Ay l2.length cy] := by rw [← Array.getD_eq_getD_getElem?]; exact fa69
        clear hK keep hget hdep jb hcl j1 j2 j3 j4 j5 hgw q1 q2 q3 q4 e0 e1 e2 e7 e69 ev
        go_simp
      have hb := below_alloc (Below.refl w'.heap.size w') (.cells #[.slice Ax l1.length cx, .slice Ay l2.length cy] 69 (0, 0))
      refine event_step rfl hrun (hK.out _ _ (jb _ hb) (fun j _ _ hj => keep _ hb j hj) ?_)
      exact ⟨w'.heap.size, _, _, upd_at _ _ _, (upd_ne x _ (by decide)).trans ev, blk_new _ _⟩
    · injection hoi with hoi; subst hoi
      generalize putAll a x squashOps.toList 0 = A at *
      have hrun : (execOp A.eval { dst := some 71, op := Op.move (Operand.tmp 0), type := 79, pos := "chain.go:97", after := #[], guard := none }).run Try.prog w' = .ok (.value (.pointer (some ⟨g, 0, none⟩))) w' := by
        have fa0 : A.tmps.getD 0 undef = .pointer (some ⟨g, 0, none⟩) := e0
        have fb0 : A.tmps[0]?.getD undef = .pointer (some ⟨g, 0, none⟩) := by rw [← Array.getD_eq_getD_getElem?]; exact fa0
        clear hK keep hget hdep jb hcl e0 e1 e2 e7; go_simp
      exact event_step rfl hrun (hK.out _ _ hJ (fun j _ _ hj => hj) (upd_at _ _ _))
    · injection hoi with hoi; subst hoi
      have d11 : squashR g gb base bl w0 Ab AS cb cl fr tn q bot lays A1 c1 l1 A2 c2 l2 x 11 w' := (hdep { on := 11, ground := Ground.data } (by simp [squashOps]) rfl).2
      have e71 : (putAll a x squashOps.toList 0).tmps.getD 71 undef = x 11 := by have h := hget 11 71 _ (show squashOps.toList[11]? = some _ from rfl) rfl (by rw [hsz]; decide); rw [Nat.zero_add] at h; exact h
      generalize putAll a x squashOps.toList 0 = A at *
      have hrun : (execOp A.eval { dst := some 72, op := Op.nilCheck (Operand.tmp 71), type := 0, pos := "chain.go:97", after := #[{ on := 11, ground := Ground.data }], guard := none }).run Try.prog w' = .ok (.value (.pointer (some ⟨g, 0, none⟩))) w' := by
        have fa71 : A.tmps.getD 71 undef = .pointer (some ⟨g, 0, none⟩) := e71.trans d11
        have fb71 : A.tmps[71]?.getD undef = .pointer (some ⟨g, 0, none⟩) := by rw [← Array.getD_eq_getD_getElem?]; exact fa71
        clear hK keep hget hdep jb hcl e0 e1 e2 e7 e71; go_simp
      exact event_step rfl hrun (hK.out _ _ hJ (fun j _ _ hj => hj) (upd_at _ _ _))
    · injection hoi with hoi; subst hoi
      have d12 : squashR g gb base bl w0 Ab AS cb cl fr tn q bot lays A1 c1 l1 A2 c2 l2 x 12 w' := (hdep { on := 12, ground := Ground.data } (by simp [squashOps]) rfl).2
      have e72 : (putAll a x squashOps.toList 0).tmps.getD 72 undef = x 12 := by have h := hget 12 72 _ (show squashOps.toList[12]? = some _ from rfl) rfl (by rw [hsz]; decide); rw [Nat.zero_add] at h; exact h
      generalize putAll a x squashOps.toList 0 = A at *
      have hrun : (execOp A.eval { dst := some 73, op := Op.fieldAddr 116 (Operand.tmp 72) 1, type := 0, pos := "chain.go:97", after := #[{ on := 12, ground := Ground.data }], guard := none }).run Try.prog w' = .ok (.value (.pointer (some ⟨g, 1, none⟩))) w' := by
        have fa72 : A.tmps.getD 72 undef = .pointer (some ⟨g, 0, none⟩) := e72.trans d12
        have fb72 : A.tmps[72]?.getD undef = .pointer (some ⟨g, 0, none⟩) := by rw [← Array.getD_eq_getD_getElem?]; exact fa72
        clear hK keep hget hdep jb hcl e0 e1 e2 e7 e72; go_simp
      exact event_step rfl hrun (hK.out _ _ hJ (fun j _ _ hj => hj) (upd_at _ _ _))
    · injection hoi with hoi; subst hoi
      have j1 := hJ.1; have j2 := hJ.2.1; have j3 := hJ.2.2.1; have j4 := hJ.2.2.2.1; have j5 := hJ.2.2.2.2
      have q0 := j5 (hcl 21 (dep_of 1 (by decide +kernel)))
      have q1 := q0.1; have q2 := q0.2.1; have q3 := q0.2.2.1; have q4 := q0.2.2.2; clear q0
      have hgw := j3 (hcl 21 (dep_of 1 (by decide +kernel)))
      have d13 : squashR g gb base bl w0 Ab AS cb cl fr tn q bot lays A1 c1 l1 A2 c2 l2 x 13 w' := (hdep { on := 13, ground := Ground.data } (by simp [squashOps]) rfl).2
      have e73 : (putAll a x squashOps.toList 0).tmps.getD 73 undef = x 13 := by have h := hget 13 73 _ (show squashOps.toList[13]? = some _ from rfl) rfl (by rw [hsz]; decide); rw [Nat.zero_add] at h; exact h
      generalize putAll a x squashOps.toList 0 = A at *
      have hrun : (execOp A.eval { dst := some 74, op := Op.load 114 (Operand.tmp 73), type := 114, pos := "chain.go:97", after := #[{ on := 13, ground := Ground.data }], guard := none }).run Try.prog w' = .ok (.value ((.slice (some ⟨bl, 0, none⟩) lays.length cl))) w' := by
        have fa73 : A.tmps.getD 73 undef = .pointer (some ⟨g, 1, none⟩) := e73.trans d13
        have fb73 : A.tmps[73]?.getD undef = .pointer (some ⟨g, 1, none⟩) := by rw [← Array.getD_eq_getD_getElem?]; exact fa73
        have m1 := (blk_cell hgw 1).trans (show _ = some (Value.slice (some ⟨bl, 0, none⟩) lays.length cl) from rfl)
        clear j1 j2 j3 j4 j5 hgw q1 q2 q3 q4
        clear hK keep hget hdep jb hcl e0 e1 e2 e7 e73; go_simp
      exact event_step rfl hrun (hK.out _ _ hJ (fun j _ _ hj => hj) (upd_at _ _ _))
    · injection hoi with hoi; subst hoi
      generalize putAll a x squashOps.toList 0 = A at *
      have hrun : (execOp A.eval { dst := some 75, op := Op.move (Operand.tmp 2), type := 3, pos := "chain.go:97", after := #[], guard := none }).run Try.prog w' = .ok (.value (.int .i64 (tn : Int))) w' := by
        have fa2 : A.tmps.getD 2 undef = .int .i64 (tn : Int) := e2
        have fb2 : A.tmps[2]?.getD undef = .int .i64 (tn : Int) := by rw [← Array.getD_eq_getD_getElem?]; exact fa2
        clear hK keep hget hdep jb hcl e0 e1 e2 e7; go_simp
      exact event_step rfl hrun (hK.out _ _ hJ (fun j _ _ hj => hj) (upd_at _ _ _))
    · injection hoi with hoi; subst hoi
      have d14 : squashR g gb base bl w0 Ab AS cb cl fr tn q bot lays A1 c1 l1 A2 c2 l2 x 14 w' := (hdep { on := 14, ground := Ground.data } (by simp [squashOps]) rfl).2
      have e74 : (putAll a x squashOps.toList 0).tmps.getD 74 undef = x 14 := by have h := hget 14 74 _ (show squashOps.toList[14]? = some _ from rfl) rfl (by rw [hsz]; decide); rw [Nat.zero_add] at h; exact h
      have d15 : squashR g gb base bl w0 Ab AS cb cl fr tn q bot lays A1 c1 l1 A2 c2 l2 x 15 w' := (hdep { on := 15, ground := Ground.data } (by simp [squashOps]) rfl).2
      have e75 : (putAll a x squashOps.toList 0).tmps.getD 75 undef = x 15 := by have h := hget 15 75 _ (show squashOps.toList[15]? = some _ from rfl) rfl (by rw [hsz]; decide); rw [Nat.zero_add] at h; exact h
      generalize putAll a x squashOps.toList 0 = A at *
      have hrun : (execOp A.eval { dst := some 76, op := Op.slice 114 (Operand.tmp 74) (some (Operand.tmp 75)) none none, type := 114, pos := "chain.go:97", after := #[{ on := 14, ground := Ground.data }, { on := 15, ground := Ground.data }], guard := none }).run Try.prog w' = .ok (.value (.slice AS (lays.length - tn) (cl - tn))) w' := by
        have fa74 : A.tmps.getD 74 undef = (.slice (some ⟨bl, 0, none⟩) lays.length cl) := e74.trans d14
        have fb74 : A.tmps[74]?.getD undef = (.slice (some ⟨bl, 0, none⟩) lays.length cl) := by rw [← Array.getD_eq_getD_getElem?]; exact fa74
        have fa75 : A.tmps.getD 75 undef = .int .i64 (tn : Int) := e75.trans d15
        have fb75 : A.tmps[75]?.getD undef = .int .i64 (tn : Int) := by rw [← Array.getD_eq_getD_getElem?]; exact fa75
        have b0 : (0 : Int) ≤ (tn : Int) := Int.natCast_nonneg _
        have b1 : (tn : Int) ≤ (lays.length : Int) := by omega
        have hu := Try.underlying114
        by_cases hct : cl = tn
        · rw [hAS, if_pos hct]
          clear hK keep hget hdep jb hcl e0 e1 e2 e7 e74 e75 hAS d14 d15
          subst hct
          go_simp
        · rw [hAS, if_neg hct]
          clear hK keep hget hdep jb hcl e0 e1 e2 e7 e74 e75 hAS d14 d15
          go_simp
      exact event_step rfl hrun (hK.out _ _ hJ (fun j _ _ hj => hj) (upd_at _ _ _))
    · injection hoi with hoi; subst hoi
      have j1 := hJ.1; have j2 := hJ.2.1; have j3 := hJ.2.2.1; have j4 := hJ.2.2.2.1; have j5 := hJ.2.2.2.2
      have q0 := j5 (hcl 21 (dep_of 1 (by decide +kernel)))
      have q1 := q0.1; have q2 := q0.2.1; have q3 := q0.2.2.1; have q4 := q0.2.2.2; clear q0
      have hgw := j3 (hcl 21 (dep_of 1 (by decide +kernel)))
      have d7 : squashR g gb base bl w0 Ab AS cb cl fr tn q bot lays A1 c1 l1 A2 c2 l2 x 7 w' := (hdep { on := 7, ground := Ground.data } (by simp [squashOps]) rfl).2
      have e67 : (putAll a x squashOps.toList 0).tmps.getD 67 undef = x 7 := by have h := hget 7 67 _ (show squashOps.toList[7]? = some _ from rfl) rfl (by rw [hsz]; decide); rw [Nat.zero_add] at h; exact h
      have d10 : squashR g gb base bl w0 Ab AS cb cl fr tn q bot lays A1 c1 l1 A2 c2 l2 x 10 w' := (hdep { on := 10, ground := Ground.data } (by simp [squashOps]) rfl).2
      have e70 : (putAll a x squashOps.toList 0).tmps.getD 70 undef = x 10 := by have h := hget 10 70 _ (show squashOps.toList[10]? = some _ from rfl) rfl (by rw [hsz]; decide); rw [Nat.zero_add] at h; exact h
      have d16 : squashR g gb base bl w0 Ab AS cb cl fr tn q bot lays A1 c1 l1 A2 c2 l2 x 16 w' := (hdep { on := 16, ground := Ground.data } (by simp [squashOps]) rfl).2
      have e76 : (putAll a x squashOps.toList 0).tmps.getD 76 undef = x 16 := by have h := hget 16 76 _ (show squashOps.toList[16]? = some _ from rfl) rfl (by rw [hsz]; decide); rw [Nat.zero_add] at h; exact h
      generalize putAll a x squashOps.toList 0 = A at *
      obtain ⟨b, v1, v2, x10, x9, hbk⟩ := id d10
      have hrun : (execOp A.eval { dst := some 77, op := Op.buildSlice 155 3 #[(0, Operand.tmp 67), (1, Operand.tmp 70), (2, Operand.tmp 76)], type := 155, pos := "chain.go:97", after := #[{ on := 7, ground := Ground.data }, { on := 10, ground := Ground.data }, { on := 16, ground := Ground.data }], guard := none }).run Try.prog w' = .ok (.value (.slice (some ⟨w'.heap.size, 0, none⟩) 3 3)) (w'.alloc (.cells #[.slice (some ⟨bl, 0, none⟩) fr cl, .slice (some ⟨b, 0, none⟩) 1 1, .slice AS (lays.length - tn) (cl - tn)] 114 (0, 0))) := by
        have fa67 : A.tmps.getD 67 undef = .slice (some ⟨bl, 0, none⟩) fr cl := e67.trans d7
        have fb67 : A.tmps[67]?.getD undef = .slice (some ⟨bl, 0, none⟩) fr cl := by rw [← Array.getD_eq_getD_getElem?]; exact fa67
        have fa70 : A.tmps.getD 70 undef = .slice (some ⟨b, 0, none⟩) 1 1 := e70.trans x10
        have fb70 : A.tmps[70]?.getD undef = .slice (some ⟨b, 0, none⟩) 1 1 := by rw [← Array.getD_eq_getD_getElem?]; exact fa70
        have fa76 : A.tmps.getD 76 undef = .slice AS (lays.length - tn) (cl - tn) := e76.trans d16
        have fb76 : A.tmps[76]?.getD undef = .slice AS (lays.length - tn) (cl - tn) := by rw [← Array.getD_eq_getD_getElem?]; exact fa76
        clear hK keep hget hdep jb hcl j1 j2 j3 j4 j5 hgw q1 q2 q3 q4 e0 e1 e2 e7 e67 e70 e76 x10 x9 hbk d7 d10 d16
        go_simp
      have hb := below_alloc (Below.refl w'.heap.size w') (.cells #[.slice (some ⟨bl, 0, none⟩) fr cl, .slice (some ⟨b, 0, none⟩) 1 1, .slice AS (lays.length - tn) (cl - tn)] 114 (0, 0))
      refine event_step rfl hrun (hK.out _ _ (jb _ hb) (fun j _ _ hj => keep _ hb j hj) ?_)
      exact ⟨w'.heap.size, b, v1, v2, upd_at _ _ _, blk_new _ _, (upd_ne x _ (by decide)).trans x9, blk_below hbk hb⟩
    · injection hoi with hoi; subst hoi
      have j1 := hJ.1; have j2 := hJ.2.1; have j3 := hJ.2.2.1; have j4 := hJ.2.2.2.1; have j5 := hJ.2.2.2.2
      have q0 := j5 (hcl 21 (dep_of 1 (by decide +kernel)))
      have q1 := q0.1; have q2 := q0.2.1; have q3 := q0.2.2.1; have q4 := q0.2.2.2; clear q0
      have hgw := j3 (hcl 21 (dep_of 1 (by decide +kernel)))
      have d17 : squashR g gb base bl w0 Ab AS cb cl fr tn q bot lays A1 c1 l1 A2 c2 l2 x 17 w' := (hdep { on := 17, ground := Ground.data } (by simp [squashOps]) rfl).2
      have e77 : (putAll a x squashOps.toList 0).tmps.getD 77 undef = x 17 := by have h := hget 17 77 _ (show squashOps.toList[17]? = some _ from rfl) rfl (by rw [hsz]; decide); rw [Nat.zero_add] at h; exact h
      generalize putAll a x squashOps.toList 0 = A at *
      have D9 : squashR g gb base bl w0 Ab AS cb cl fr tn q bot lays A1 c1 l1 A2 c2 l2 x 9 w' := (hdep { on := 9, ground := Ground.chain } (by simp [squashOps]) rfl).2
      obtain ⟨b2, b, v1, v2, x17, hb2, x9, hbk⟩ := id d17
      obtain ⟨v1', v2', ev, hv1, hv2⟩ := id D9
      obtain ⟨rfl, rfl⟩ : v1 = v1' ∧ v2 = v2' := by have h := x9.symm.trans ev; simpa using h
      have hrows := R_rows q2
      have hsuf := RR_drop hrows htn hnc
      have hA2 : (if cl = tn then (some ⟨bl, 0, none⟩ : Option Addr) else (some ⟨bl, 0, none⟩ : Option Addr).map (·.add (tn * k69.sz))) = AS := by rw [hAS]; by_cases hct : cl = tn; exact (if_pos hct).trans (if_pos hct).symm; rw [if_neg hct, if_neg hct, Option.map_some, add0, show k69.sz = 2 from rfl]
      rw [hA2] at hsuf
      have hpre := RR_take (m := fr) hrows hfn
      have n0 : (lays.take fr).length = fr := by rw [List.length_take]; omega
      have n2 : (lays.drop tn).length = lays.length - tn := List.length_drop
      have hcc := concatL_calls b2 base (some ⟨bl, 0, none⟩) (some ⟨b, 0, none⟩) AS cl 1 (cl - tn) (lays.take fr) [⟨l1, l2⟩] (lays.drop tn) w' (by rw [n0]; exact (blk_cell hb2 0).trans rfl) ((blk_cell hb2 1).trans rfl) (by rw [n2]; exact (blk_cell hb2 2).trans rfl) (by rw [n0]; exact hpre) (lay_reads hbk (k69_mkM w' base _ ⟨l1, l2⟩ hv1 hv2)) (by rw [n2]; exact hsuf) j2 (by rw [n0, n2]; simp only [List.length_singleton]; omega)
      refine goes_ Try.func65 (by kernel_rfl) rfl #[.slice (some ⟨b2, 0, none⟩) 3 3] rfl rfl rfl (by have p1 : A.eval (.tmp 77) = .slice (some ⟨b2, 0, none⟩) 3 3 := e77.trans x17; simp only [List.map_toArray, List.map_cons, List.map_nil, p1]) (hcc.mono ?_)
      rintro e w'' ⟨⟨v, rfl, hv⟩, hb⟩
      refine ⟨v, rfl, hK.out _ _ (jb _ hb) (fun j _ _ hj => keep _ hb j hj) ?_⟩
      show Kd.R k69 69 w'' base (fun _ => True) (upd x 18 v 18) (lays.take fr ++ [⟨l1, l2⟩] ++ lays.drop tn)
      rw [upd_at]
      exact hv
    · injection hoi with hoi; subst hoi
      have d0 : squashR g gb base bl w0 Ab AS cb cl fr tn q bot lays A1 c1 l1 A2 c2 l2 x 0 w' := (hdep { on := 0, ground := Ground.data } (by simp [squashOps]) rfl).2
      have e60 : (putAll a x squashOps.toList 0).tmps.getD 60 undef = x 0 := by have h := hget 0 60 _ (show squashOps.toList[0]? = some _ from rfl) rfl (by rw [hsz]; decide); rw [Nat.zero_add] at h; exact h
      generalize putAll a x squashOps.toList 0 = A at *
      have hrun : (execOp A.eval { dst := some 79, op := Op.nilCheck (Operand.tmp 60), type := 0, pos := "chain.go:97", after := #[{ on := 0, ground := Ground.data }, { on := 0, ground := Ground.phase }, { on := 1, ground := Ground.phase }, { on := 2, ground := Ground.phase }, { on := 3, ground := Ground.phase }, { on := 4, ground := Ground.phase }, { on := 5, ground := Ground.phase }, { on := 6, ground := Ground.phase }, { on := 7, ground := Ground.phase }, { on := 8, ground := Ground.phase }, { on := 9, ground := Ground.phase }, { on := 10, ground := Ground.phase }, { on := 11, ground := Ground.phase }, { on := 12, ground := Ground.phase }, { on := 13, ground := Ground.phase }, { on := 14, ground := Ground.phase }, { on := 15, ground := Ground.phase }, { on := 16, ground := Ground.phase }, { on := 17, ground := Ground.phase }, { on := 18, ground := Ground.phase }], guard := none }).run Try.prog w' = .ok (.value (.pointer (some ⟨g, 0, none⟩))) w' := by
        have fa60 : A.tmps.getD 60 undef = .pointer (some ⟨g, 0, none⟩) := e60.trans d0
        have fb60 : A.tmps[60]?.getD undef = .pointer (some ⟨g, 0, none⟩) := by rw [← Array.getD_eq_getD_getElem?]; exact fa60
        clear hK keep hget hdep jb hcl e0 e1 e2 e7 e60; go_simp
      exact event_step rfl hrun (hK.out _ _ hJ (fun j _ _ hj => hj) (upd_at _ _ _))
    · injection hoi with hoi; subst hoi
      have d19 : squashR g gb base bl w0 Ab AS cb cl fr tn q bot lays A1 c1 l1 A2 c2 l2 x 19 w' := (hdep { on := 19, ground := Ground.data } (by simp [squashOps]) rfl).2
      have e79 : (putAll a x squashOps.toList 0).tmps.getD 79 undef = x 19 := by have h := hget 19 79 _ (show squashOps.toList[19]? = some _ from rfl) rfl (by rw [hsz]; decide); rw [Nat.zero_add] at h; exact h
      generalize putAll a x squashOps.toList 0 = A at *
      have hrun : (execOp A.eval { dst := some 80, op := Op.fieldAddr 116 (Operand.tmp 79) 1, type := 0, pos := "chain.go:97", after := #[{ on := 19, ground := Ground.data }, { on := 0, ground := Ground.phase }, { on := 1, ground := Ground.phase }, { on := 2, ground := Ground.phase }, { on := 3, ground := Ground.phase }, { on := 4, ground := Ground.phase }, { on := 5, ground := Ground.phase }, { on := 6, ground := Ground.phase }, { on := 7, ground := Ground.phase }, { on := 8, ground := Ground.phase }, { on := 9, ground := Ground.phase }, { on := 10, ground := Ground.phase }, { on := 11, ground := Ground.phase }, { on := 12, ground := Ground.phase }, { on := 13, ground := Ground.phase }, { on := 14, ground := Ground.phase }, { on := 15, ground := Ground.phase }, { on := 16, ground := Ground.phase }, { on := 17, ground := Ground.phase }, { on := 18, ground := Ground.phase }], guard := none }).run Try.prog w' = .ok (.value (.pointer (some ⟨g, 1, none⟩))) w' := by
        have fa79 : A.tmps.getD 79 undef = .pointer (some ⟨g, 0, none⟩) := e79.trans d19
        have fb79 : A.tmps[79]?.getD undef = .pointer (some ⟨g, 0, none⟩) := by rw [← Array.getD_eq_getD_getElem?]; exact fa79
        clear hK keep hget hdep jb hcl e0 e1 e2 e7 e79; go_simp
      exact event_step rfl hrun (hK.out _ _ hJ (fun j _ _ hj => hj) (upd_at _ _ _))
    · injection hoi with hoi; subst hoi
      have j1 := hJ.1; have j2 := hJ.2.1; have j3 := hJ.2.2.1; have j4 := hJ.2.2.2.1; have j5 := hJ.2.2.2.2
      have q0 := j5 (hui)
      have q1 := q0.1; have q2 := q0.2.1; have q3 := q0.2.2.1; have q4 := q0.2.2.2; clear q0
      have hgw := j3 (hui)
      have d20 : squashR g gb base bl w0 Ab AS cb cl fr tn q bot lays A1 c1 l1 A2 c2 l2 x 20 w' := (hdep { on := 20, ground := Ground.data } (by simp [squashOps]) rfl).2
      have e80 : (putAll a x squashOps.toList 0).tmps.getD 80 undef = x 20 := by have h := hget 20 80 _ (show squashOps.toList[20]? = some _ from rfl) rfl (by rw [hsz]; decide); rw [Nat.zero_add] at h; exact h
      have d18 : squashR g gb base bl w0 Ab AS cb cl fr tn q bot lays A1 c1 l1 A2 c2 l2 x 18 w' := (hdep { on := 18, ground := Ground.data } (by simp [squashOps]) rfl).2
      have e78 : (putAll a x squashOps.toList 0).tmps.getD 78 undef = x 18 := by have h := hget 18 78 _ (show squashOps.toList[18]? = some _ from rfl) rfl (by rw [hsz]; decide); rw [Nat.zero_add] at h; exact h
      generalize putAll a x squashOps.toList 0 = A at *
      obtain ⟨An, cn, en⟩ := Kd.R_slice d18
      generalize hzz : (lays.take fr ++ [(⟨l1, l2⟩ : S69)] ++ lays.drop tn).length = zz at en
      have m0 := (blk_cell hgw 0).trans (show _ = some (Value.slice Ab bot.length cb) from rfl); have m1 := (blk_cell hgw 1).trans (show _ = some (Value.slice (some ⟨bl, 0, none⟩) lays.length cl) from rfl); have f1 : w'.frozen? ⟨g, 1, none⟩ = false := blk_frozen hgw 1
      have hrun : (execOp A.eval { dst := none, op := Op.store 114 (Operand.tmp 80) (Operand.tmp 78), type := 0, pos := "chain.go:97", after := #[{ on := 20, ground := Ground.data }, { on := 18, ground := Ground.data }, { on := 18, ground := Ground.chain }, { on := 0, ground := Ground.phase }, { on := 1, ground := Ground.phase }, { on := 2, ground := Ground.phase }, { on := 3, ground := Ground.phase }, { on := 4, ground := Ground.phase }, { on := 5, ground := Ground.phase }, { on := 6, ground := Ground.phase }, { on := 7, ground := Ground.phase }, { on := 8, ground := Ground.phase }, { on := 9, ground := Ground.phase }, { on := 10, ground := Ground.phase }, { on := 11, ground := Ground.phase }, { on := 12, ground := Ground.phase }, { on := 13, ground := Ground.phase }, { on := 14, ground := Ground.phase }, { on := 15, ground := Ground.phase }, { on := 16, ground := Ground.phase }, { on := 17, ground := Ground.phase }, { on := 18, ground := Ground.phase }], guard := none }).run Try.prog w' = .ok .skip (w'.setCell ⟨g, 1, none⟩ (x 18)) := by
        have fa80 : A.tmps.getD 80 undef = .pointer (some ⟨g, 1, none⟩) := e80.trans d20
        have fb80 : A.tmps[80]?.getD undef = .pointer (some ⟨g, 1, none⟩) := by rw [← Array.getD_eq_getD_getElem?]; exact fa80
        have fa78 : A.tmps.getD 78 undef = .slice An zz cn := e78.trans en
        have fb78 : A.tmps[78]?.getD undef = .slice An zz cn := by rw [← Array.getD_eq_getD_getElem?]; exact fa78
        rw [en]
        clear hK keep hget hdep jb hcl j1 j2 j3 j4 j5 hgw q1 q2 q3 q4 e0 e1 e2 e7 e80 e78 en hzz d18 d20
        go_simp
      refine skip_step rfl hrun (hK.out _ _ ⟨j1.setCell hbg _, by simpa [World.setCell] using j2, fun h => (by cases h), Kd.R_set j4 hgw (by decide) 1 _, fun h => (by cases h)⟩ (fun j hjn hjup hj => ?_) ?_)
      · 
        rcases j with _ | _ | _ | _ | _ | _ | _ | _ | _ | _ | _ | _ | _ | _ | _ | _ | _ | _ | _ | _ | _ | _ | j
        · exact hj
        · exact hj
        · exact hj
        · exact hj
        · exact hj
        · exact hj
        · exact hj
        · exact hj
        · exact hj
        · obtain ⟨v1, v2, q1, q2', q3'⟩ := hj; exact ⟨v1, v2, q1, Kd.R_set q2' hgw (by decide) 1 _, Kd.R_set q3' hgw (by decide) 1 _⟩
        · obtain ⟨b', v1, v2, q1, q2', q3'⟩ := hj; exact ⟨b', v1, v2, q1, q2', (Below.heap_setCell _ _ _ _ (blk_ne q3' hgw (by decide))).trans q3'⟩
        · exact hj
        · exact hj
        · exact hj
        · exact hj
        · exact hj
        · exact hj
        · obtain ⟨b2', b', v1, v2, q1, q2', q3', q4'⟩ := hj; exact ⟨b2', b', v1, v2, q1, (Below.heap_setCell _ _ _ _ (blk_ne q2' hgw (by decide))).trans q2', q3', (Below.heap_setCell _ _ _ _ (blk_ne q4' hgw (by decide))).trans q4'⟩
        · exact Kd.R_set hj hgw (by decide) 1 _
        · exact hj
        · exact hj
        · exact absurd rfl hjn
        · exact trivial
      · show (w'.setCell ⟨g, 1, none⟩ (x 18)).heap[g]? = some (.cells #[(.slice Ab bot.length cb), upd x 21 _ 18] 116 (0, 0))
        rw [upd_ne x _ (show (18 : Nat) ≠ 21 by decide)]
        exact blk_put hgw 1 _ rfl
    · cases hoi
  · intro up x w' hall hJ hR
    obtain ⟨j1, j2, j3, j4, j5⟩ := hJ
    have d18 : Kd.R k69 69 w' base (fun _ => True) (x 18) (lays.take fr ++ [⟨l1, l2⟩] ++ lays.drop tn) := hR 18 (by decide +kernel)
    have d21 : w'.heap[g]? = some (.cells #[(.slice Ab bot.length cb), x 18] 116 (0, 0)) := hR 21 (by decide +kernel)
    exact hend x w' j1 d21 j4 d18
end Go.Proofs.Ytdjamphmndbmjaa.M

/- Package chain: Squash (printed by wip/gen_ch7.py). -/
namespace Go.Proofs.Ytdjamphmndbmjaa.M
open Go.RowKit Go.Proofs.YtdjamphmndbmjaaW.PrintWords Go.Proofs.YtdjamphmndbmjaaW.PrintLast Go.Proofs.YtdjamphmndbmjaaW.PrintMore
set_option linter.unusedVariables false
set_option linter.unusedSimpArgs false

/-- Layers made one, one behind the other: on k, what the first k + 1 from fr on come to. -/
def OneOk (lays : List S69) (fr tn : Nat) (one : Nat → S69) : Prop :=
  (∀ h : fr < lays.length, one 0 = lays[fr]) ∧ ∀ k, fr + 1 + k < tn → ∀ h : fr + 1 + k < lays.length, thenR (one k).f0 (one k).f1 lays[fr + 1 + k].f0 lays[fr + 1 + k].f1 = (((one (k + 1)).f0, (one (k + 1)).f1), none)
theorem elem_rows {w : World} {base b n c : Nat} {lays : List S69} (h : Kd.R k69 69 w base (fun _ => True) (.slice (some ⟨b, 0, none⟩) n c) lays) (i : Nat) (hi : i < lays.length) :
    ∃ A1 c1 A2 c2, w.cell? ⟨b, i * 2, none⟩ = some (.slice A1 lays[i].f0.length c1) ∧ w.cell? ⟨b, i * 2 + 1, none⟩ = some (.slice A2 lays[i].f1.length c2) ∧ Kd.R k41 41 w base (fun _ => True) (.slice A1 lays[i].f0.length c1) lays[i].f0 ∧ Kd.R k41 41 w base (fun _ => True) (.slice A2 lays[i].f1.length c2) lays[i].f1 := by
  obtain ⟨_, _, hr⟩ := R_rows h
  obtain ⟨ad, e, hc⟩ := hr (by omega)
  obtain rfl := Option.some.inj e
  obtain ⟨cs, hl, hM, hcell⟩ := hc i _ (List.getElem?_eq_getElem hi)
  obtain ⟨v0, v1, rfl, g0, g1⟩ := k69_openM hM
  obtain ⟨A1, c1, e1⟩ := Kd.R_slice g0
  obtain ⟨A2, c2, e2⟩ := Kd.R_slice g1
  subst e1; subst e2
  refine ⟨A1, c1, A2, c2, ?_, ?_, g0, g1⟩
  · have := hcell 0 _ rfl
    rw [add0] at this
    exact this
  · have := hcell 1 _ rfl
    rw [add0] at this
    exact this
set_option maxHeartbeats 16000000 in
set_option maxRecDepth 100000 in
theorem squash_ok (g base fr tn : Nat) (bot : List S41) (lays : List S69) (one : Nat → S69) (w : World) (hC : Chn w g base bot lays) (hft : fr + 1 ≤ tn) (htn : tn ≤ lays.length) (hl : lays.length ≤ 1000) (hone : OneOk lays fr tn one) (hlen : ∀ k, fr + 1 + k ≤ tn → (one k).f0.length ≤ 200 ∧ (one k).f1.length ≤ 200) (hbw : base ≤ w.heap.size) :
    Calls Try.prog 40 #[.pointer (some ⟨g, 0, none⟩), .int .i64 ((fr : Int) + 1), .int .i64 (tn : Int)] w fun e w' => e = .returned .nilIface ∧ Chn w' g base bot (lays.take fr ++ [one (tn - (fr + 1))] ++ lays.drop tn) ∧ Below base w w' := by
  have HCH := Aside0.mk hC
  obtain ⟨vb, vl, hg, hbg, hRb, hRl⟩ := hC
  obtain ⟨Ab, cb, eb⟩ := Kd.R_slice hRb
  obtain ⟨bl, cl, el, _, _, _⟩ := Kd.R_form hRl (by omega)
  subst eb; subst el
  obtain ⟨_, hnc, _⟩ := Kd.R_reads' hRl
  have hfl : fr < lays.length := by omega
  obtain ⟨A1, c1, A2, c2, z0, z1, r1, r2⟩ := elem_rows hRl fr hfl
  have hq : IntKind.i64.wrap ((fr : Int) + 1 - 1) = (fr : Int) := by rw [show (fr : Int) + 1 - 1 = (fr : Int) by omega]; exact i64_wrap_id _ (by omega) (by omega)
  have h1 : ¬ (fr : Int) + 1 < 1 := by omega
  have h2 : decide (lays.length < tn) = false := decide_eq_false (by omega)
  have h3 : ¬ (fr : Int) + 1 > (tn : Int) := by omega
  have h4 : (0 : Int) ≤ (fr : Int) := by omega
  have h5 : (fr : Int) < (lays.length : Int) := by omega
  have h6 : (fr : Int) + 1 ≤ (tn : Int) := by omega
  have h7 : (tn : Int) ≤ (cl : Int) := by omega
  have g1 := (blk_cell hg 1).trans (show _ = some (Value.slice (some ⟨bl, 0, none⟩) lays.length cl) from rfl)
  have g1a := fun (o : Obj) => cell?_alloc_old' g1 o
  have HG := Aside0.mk hg; have HRB := Aside0.mk hRb; have HRL := Aside0.mk hRl; have HBG := Aside0.mk hbg; have HBW := Aside0.mk hbw; have HON := Aside0.mk hone; have HLE := Aside0.mk hlen; have HQ := Aside0.mk hq
  have HFT := Aside0.mk hft; have HTN := Aside0.mk htn; have HL1 := Aside0.mk hl; have HNC := Aside0.mk hnc
  have HZ0 := Aside0.mk (hone.1 hfl); have HR1 := Aside0.mk r1; have HR2 := Aside0.mk r2
  clear hg hRb hRl hbg hbw hone hlen r1 r2
  obtain ⟨ti, hti, htz⟩ := Option.map_eq_some_iff.1 xinfoL
  have hsl := cut_mid (P := Try.prog) 114 69 .i64 .i64 Try.underlying114 hti 2 (congrArg (fun q => q.2.1) htz) (some ⟨bl, 0, none⟩) lays.length cl ((fr : Int) + 1) (tn : Int) (by omega) h6 (by omega) hnc
  rw [show ((fr : Int) + 1).toNat = fr + 1 by omega, Int.toNat_natCast, Option.map_some, add0] at hsl
  obtain ⟨AX, hAX⟩ : ∃ AX, (if cl = fr + 1 then (some ⟨bl, 0, none⟩ : Option Addr) else some ⟨bl, (fr + 1) * 2, none⟩) = AX := ⟨_, rfl⟩
  rw [hAX] at hsl
  have HAX := Aside0.mk hAX; clear hAX hti htz
  go_enter Try.func40, Try.ntmps40
  go_wp2_with (fail)
  clear z0 z1 g1 g1a hsl h1 h2 h3 h4 h5 h6 h7 hq
  have HI : Aside0 (∃ v1 v2, (w.alloc (.cells #[.slice A1 lays[fr].f0.length c1, .slice A2 lays[fr].f1.length c2] 69)).heap[w.heap.size]? = some (.cells #[v1, v2] 69 (0, 0)) ∧ Kd.R k41 41 (w.alloc (.cells #[.slice A1 lays[fr].f0.length c1, .slice A2 lays[fr].f1.length c2] 69)) base (fun _ => True) v1 (one 0).f0 ∧ Kd.R k41 41 (w.alloc (.cells #[.slice A1 lays[fr].f0.length c1, .slice A2 lays[fr].f1.length c2] 69)) base (fun _ => True) v2 (one 0).f1) := ⟨_, _, blk_new _ _, by rw [HZ0.out]; exact Kd.R_alloc HR1.out _, by rw [HZ0.out]; exact Kd.R_alloc HR2.out _⟩
  have HBI : Aside0 (Below w.heap.size w (w.alloc (.cells #[.slice A1 lays[fr].f0.length c1, .slice A2 lays[fr].f1.length c2] 69))) := ⟨below_alloc (Below.refl _ _) _⟩
  clear HR1 HR2 HZ0
  go_loopg [9, 10, 11, 45] (tn - (fr + 1)) (fun gg _ _ _ s45 wr => ∃ k : Nat, k ≤ tn - (fr + 1) ∧ (tn - (fr + 1)) - k ≤ gg ∧ s45 = .int .i64 k ∧ Aside0 (Below w.heap.size w wr) ∧ Aside0 (∃ v1 v2, wr.heap[w.heap.size]? = some (.cells #[v1, v2] 69 (0, 0)) ∧ Kd.R k41 41 wr base (fun _ => True) v1 (one k).f0 ∧ Kd.R k41 41 wr base (fun _ => True) v2 (one k).f1))
  case atStart => exact ⟨0, Nat.zero_le _, by omega, rfl, HBI, HI⟩
  case round =>
    obtain ⟨k, hk, hgk, rfl, HL, HI⟩ := hrel
    obtain ⟨v1, v2, hbk, hv1, hv2⟩ := HI.out
    obtain ⟨B1, d1, e1, D1, n1⟩ := R_row hv1; obtain ⟨B2, d2, e2, D2, n2⟩ := R_row hv2
    subst e1; subst e2
    by_cases hlt : k < tn - (fr + 1)
    · have hl0 := HL1.out; have ht0 := HTN.out; have hnc0 := HNC.out
      have hkl : fr + 1 + k < lays.length := by omega
      have hltz : (k : Int) < ((tn - (fr + 1) : Nat) : Int) := by omega
      have hth := HON.out.2 k (by omega) hkl
      obtain ⟨E1, m1, E2, m2, z0, z1, r1, r2⟩ := elem_rows (Kd.R_below HRL.out HL.out) (fr + 1 + k) hkl
      obtain ⟨_, _, q1, F1, o1⟩ := R_row r1; obtain ⟨_, _, q2, F2, o2⟩ := R_row r2
      injection q1 with q1a _ q1c; subst q1a; subst q1c; injection q2 with q2a _ q2c; subst q2a; subst q2c
      have hax := HAX.out; rw [if_neg (by omega)] at hax; subst hax
      generalize lays[fr + 1 + k].f0 = xa at *; generalize lays[fr + 1 + k].f1 = xt at *
      have hthen := fun W h1 h2 h3 h4 => then_ok hth B1 d1 B2 d2 E1 m1 E2 m2 W h1 n1 h2 n2 h3 o1 h4 o2
      have k0 := fun (o : Obj) => cell?_alloc_old' ((blk_cell hbk 0).trans (show _ = some (Value.slice B1 (one k).f0.length d1) from rfl)) o; have k1 := fun (o : Obj) => cell?_alloc_old' ((blk_cell hbk 1).trans (show _ = some (Value.slice B2 (one k).f1.length d2) from rfl)) o
      have HTH := Aside0.mk hthen; have HBK := Aside0.mk hbk; have HD1 := Aside0.mk D1; have HD2 := Aside0.mk D2; have HF1 := Aside0.mk F1; have HF2 := Aside0.mk F2; have HXX := Aside0.mk hk
      clear hthen hbk D1 D2 F1 F2 hv1 hv2 r1 r2 hth n1 n2 o1 o2 HI
      rw [show (fr + 1 + k) * 2 = (fr + 1) * 2 + k * 2 by omega] at z0 z1
      go_wp2_with (first | (go_at_call 34; refine stop_ ?_))
      clear k0 k1 z0 z1
      refine ⟨?_⟩
      refine Calls.mono (HTH.out _ (Kd.C_below HD1.out (below_alloc (Below.refl _ _) _)) (Kd.C_below HD2.out (below_alloc (Below.refl _ _) _)) (Kd.C_below HF1.out (below_alloc (Below.refl _ _) _)) (Kd.C_below HF2.out (below_alloc (Below.refl _ _) _))) ?_
      rintro e w' ⟨vv, rfl, ⟨u1, u2, rfl, hu1, hu2⟩, hb⟩
      obtain ⟨G1, p1, eu1⟩ := Kd.R_slice hu1; obtain ⟨G2, p2, eu2⟩ := Kd.R_slice hu2
      subst eu1; subst eu2
      have hle : base ≤ (wr.alloc (.cells #[.slice E1 xa.length m1, .slice E2 xt.length m2] 69)).heap.size := Nat.le_trans HBW.out (Nat.le_trans HL.out.size (by rw [alloc_size1]; exact Nat.le_succ _))
      have HU1 := Aside0.mk (Kd.R_lower hu1 hle); have HU2 := Aside0.mk (Kd.R_lower hu2 hle)
      have hbk := blk_below (blk_alloc HBK.out _) hb; have HLn := Aside0.mk (below_step (below_alloc HL.out _) hb); clear HL hb hu1 hu2 hle HBK HD1 HD2 HF1 HF2 HTH; have HL := HLn; clear HLn
      have c0 := fun (o : Obj) => cell?_alloc_old' ((blk_cell hbk 0).trans (show _ = some (Value.slice B1 (one k).f0.length d1) from rfl)) o; have f0 := fun (o : Obj) => blk_frozen (blk_alloc hbk o) 0
      have c1 := fun (o : Obj) => cell?_alloc_old' ((blk_cell hbk 1).trans (show _ = some (Value.slice B2 (one k).f1.length d2) from rfl)) o; have f1 := fun (o : Obj) => blk_frozen (blk_alloc hbk o) 1
      have HBK := Aside0.mk hbk; clear hbk
      go_wp2
      go_roundg ((tn - (fr + 1)) - (k + 1))
      case measure => omega
      case rel => exact ⟨k + 1, by omega, by omega, by go_num, ⟨below_set (below_set (below_alloc HL.out _) (Nat.le_refl _)) (Nat.le_refl _)⟩, ⟨_, _, (blk_put (blk_put (blk_alloc HBK.out _) 0 _ rfl) 1 _ rfl), Kd.R_set (Kd.R_set (Kd.R_alloc HU1.out _) (blk_alloc HBK.out _) (by decide) 0 _) (blk_put (blk_alloc HBK.out _) 0 _ rfl) (by decide) 1 _, Kd.R_set (Kd.R_set (Kd.R_alloc HU2.out _) (blk_alloc HBK.out _) (by decide) 0 _) (blk_put (blk_alloc HBK.out _) 0 _ rfl) (by decide) 1 _⟩⟩
    · obtain rfl : k = tn - (fr + 1) := by omega
      have hltz : ¬ ((tn - (fr + 1) : Nat) : Int) < ((tn - (fr + 1) : Nat) : Int) := by omega
      have hlen := HLE.out (tn - (fr + 1)) (by have := HFT.out; omega)
      obtain ⟨oa, ot, hone⟩ : ∃ oa ot, one (tn - (fr + 1)) = ⟨oa, ot⟩ := ⟨_, _, rfl⟩
      rw [hone] at hlen D1 D2 n1 n2 hbk
      have HONE := Aside0.mk hone; clear hone
      have HBK := Aside0.mk hbk; have HD1 := Aside0.mk D1; have HD2 := Aside0.mk D2; have HN1 := Aside0.mk n1; have HN2 := Aside0.mk n2; have HLN := Aside0.mk hlen; clear hbk D1 D2 n1 n2 hv1 hv2 hlen HI
      go_wp2
      refine squash_region _ _ g w.heap.size base bl w Ab (if cl = tn then some ⟨bl, 0, none⟩ else some ⟨bl, tn * 2, none⟩) cb cl fr tn ((fr : Int) + 1) bot lays B1 d1 oa B2 d2 ot _ rfl rfl rfl rfl rfl HBG.out HQ.out (by have := HFT.out; have := HTN.out; omega) HTN.out HNC.out HL1.out rfl (fun W h1 h2 => own_calls B1 d1 oa B2 d2 ot W h1 HN1.out h2 HN2.out HLN.out.1 HLN.out.2) ⟨(HL.out.mono HBW.out).drew, Nat.le_trans HBW.out HL.out.size, fun _ => blk_drew (blk_below HG.out HL.out), Kd.R_drew (Kd.R_below HRB.out HL.out), fun _ => ⟨blk_drew HBK.out, Kd.R_drew (Kd.R_below HRL.out HL.out), Kd.C_below HD1.out (below_drew1 (Below.refl _ _)), Kd.C_below HD2.out (below_drew1 (Below.refl _ _))⟩⟩ ?_
      intro x w9 hb9 hg9 hrb hrl
      have HG9 := Aside0.mk hg9; have HRB9 := Aside0.mk hrb; have HRL9 := Aside0.mk hrl; have HB9 := Aside0.mk hb9; clear hg9 hrb hrl hb9
      simp only [squashOps, putAll]
      go_wp2
      go_ret
      refine ⟨rfl, ?_, HB9.out⟩
      have HC9 : Chn w9 g base bot (lays.take fr ++ [⟨oa, ot⟩] ++ lays.drop tn) := ⟨_, _, HG9.out, HBG.out, HRB9.out, HRL9.out⟩
      simpa only [HONE.out] using HC9
end Go.Proofs.Ytdjamphmndbmjaa.M

/- ChainSame in plain words: the layers between sets in a row; what is behind each; made one, the sets between are left out. No program in sight. -/
namespace Go.Proofs.Ytdjamphmndbmjaa.M
open Go.RowKit Go.Proofs.YtdjamphmndbmjaaW.PrintWords Go.Proofs.YtdjamphmndbmjaaW.PrintLast Go.Proofs.YtdjamphmndbmjaaW.PrintMore
set_option linter.unusedVariables false
set_option linter.unusedSimpArgs false

def betwL (a b : List S41) : S69 := ⟨partR b a false, partR a b false⟩
def ly (ss : List (List S41)) (i : Nat) : S69 := betwL (ss.getD i []) (ss.getD (i + 1) [])
def laysN (ss : List (List S41)) (n : Nat) : List S69 := (List.range n).map (ly ss)
def AllS (ss : List (List S41)) (n : Nat) : Prop := ∀ i, i ≤ n → sortedR (ss.getD i []) = none
theorem laysN_length (ss : List (List S41)) (n : Nat) : (laysN ss n).length = n := by simp [laysN]
theorem laysN_get (ss : List (List S41)) (n i : Nat) (h : i < (laysN ss n).length) : (laysN ss n)[i] = ly ss i := by simp [laysN]
theorem laysN_take (ss : List (List S41)) (n i : Nat) (h : i ≤ n) : (laysN ss n).take i = laysN ss i := by
  unfold laysN
  rw [← List.map_take, List.take_range, Nat.min_eq_left h]
theorem laysN_succ (ss : List (List S41)) (n : Nat) : laysN ss (n + 1) = laysN ss n ++ [ly ss n] := by
  unfold laysN
  rw [List.range_succ, List.map_append]
  rfl
theorem step_betw {a b : List S41} (ha : sortedR a = none) (hb : sortedR b = none) : stepR a (betwL a b) = b := by
  unfold stepR betwL
  exact strict_ext (strict_unionR _ _) (sortedR_iff.1 hb).2.2 fun x => by
    rw [mem_unionR, mem_less, mem_less, mem_less]
    by_cases h1 : x ∈ a <;> by_cases h2 : x ∈ b <;> simp [h1, h2]
theorem graph_lays {ss : List (List S41)} {n : Nat} (h : AllS ss n) : ∀ i, i ≤ n → graphR (ss.getD 0 []) (laysN ss i) = ss.getD i [] := by
  intro i
  induction i with
  | zero => intro _; rfl
  | succ i ih =>
    intro hi
    have h0 := ih (by omega)
    rw [laysN_succ]
    unfold graphR at h0 ⊢
    rw [List.foldl_append, h0]
    exact step_betw (h i (by omega)) (h (i + 1) hi)
theorem gok_lays {ss : List (List S41)} {n : Nat} (h : AllS ss n) : GOk (ss.getD 0 []) (laysN ss n) := by
  intro i hi
  rw [laysN_length] at hi
  rw [laysN_take ss n i (by omega), graph_lays h i (by omega), laysN_get]
  exact ⟨sortedR_len (h i (by omega)), sorted_partR (h i (by omega)), sortedR_len (sorted_partR (h (i + 1) (by omega)))⟩
theorem apply_lay {ss : List (List S41)} {n : Nat} (h : AllS ss (n + 1)) : applyR (graphR (ss.getD 0 []) (laysN ss n)) (ly ss n).f0 (ly ss n).f1 = (ss.getD (n + 1) [], none) := by
  rw [graph_lays h n (by omega)]
  exact apply_betw (h n (by omega)) (h (n + 1) (by omega))
theorem ly_len {ss : List (List S41)} {n : Nat} (h : AllS ss (n + 1)) : (ly ss n).f0.length ≤ 200 ∧ (ly ss n).f1.length ≤ 200 :=
  ⟨sortedR_len (sorted_partR (h (n + 1) (by omega))), sortedR_len (sorted_partR (h n (by omega)))⟩
def oneN (ss : List (List S41)) (fr : Nat) (k : Nat) : S69 := betwL (ss.getD fr []) (ss.getD (fr + 1 + k) [])
theorem one_ok {ss : List (List S41)} {n fr tn : Nat} (h : AllS ss n) (htn : tn ≤ n) : OneOk (laysN ss n) fr tn (oneN ss fr) := by
  refine ⟨fun hf => ?_, fun k hk hl => ?_⟩
  · rw [laysN_get]
    rfl
  · rw [laysN_get]
    have hl' := hl
    rw [laysN_length] at hl'
    exact then_betw (h fr (by omega)) (h (fr + 1 + k) (by omega)) (h (fr + 1 + k + 1) (by omega))
theorem one_len {ss : List (List S41)} {n fr tn : Nat} (h : AllS ss n) (htn : tn ≤ n) (k : Nat) (hk : fr + 1 + k ≤ tn) : (oneN ss fr k).f0.length ≤ 200 ∧ (oneN ss fr k).f1.length ≤ 200 :=
  ⟨sortedR_len (sorted_partR (h (fr + 1 + k) (by omega))), sortedR_len (sorted_partR (h fr (by omega)))⟩
/-- The sets without those between. -/
def without (ss : List (List S41)) (fr tn : Nat) : List (List S41) := ss.take (fr + 1) ++ ss.drop tn
theorem without_low (ss : List (List S41)) (fr tn i : Nat) (hf : fr < ss.length) (hi : i ≤ fr) : (without ss fr tn).getD i [] = ss.getD i [] := by
  unfold without
  simp only [List.getD_eq_getElem?_getD]
  rw [List.getElem?_append_left (by rw [List.length_take]; omega), List.getElem?_take, if_pos (by omega)]
theorem without_high (ss : List (List S41)) (fr tn i : Nat) (hf : fr < ss.length) : (without ss fr tn).getD (fr + 1 + i) [] = ss.getD (tn + i) [] := by
  unfold without
  simp only [List.getD_eq_getElem?_getD]
  rw [List.getElem?_append_right (by rw [List.length_take]; omega), List.getElem?_drop, List.length_take, Nat.min_eq_left (by omega)]
  congr 2
  omega
theorem without_all {ss : List (List S41)} {n fr tn : Nat} (h : AllS ss n) (hn : ss.length = n + 1) (hf : fr + 1 ≤ tn) (htn : tn ≤ n) : AllS (without ss fr tn) (fr + 1 + (n - tn)) := by
  intro i hi
  by_cases hle : i ≤ fr
  · rw [without_low ss fr tn i (by omega) hle]; exact h i (by omega)
  · obtain ⟨j, rfl⟩ : ∃ j, i = fr + 1 + j := ⟨i - (fr + 1), by omega⟩
    rw [without_high ss fr tn j (by omega)]; exact h _ (by omega)
theorem lays_without {ss : List (List S41)} {n fr tn : Nat} (hn : ss.length = n + 1) (hf : fr + 1 ≤ tn) (htn : tn ≤ n) :
    (laysN ss n).take fr ++ [oneN ss fr (tn - (fr + 1))] ++ (laysN ss n).drop tn = laysN (without ss fr tn) (fr + 1 + (n - tn)) := by
  apply List.ext_getElem
  · simp only [List.length_append, List.length_take, List.length_drop, laysN_length, List.length_singleton]
    omega
  · intro i h1 h2
    rw [laysN_get]
    rw [laysN_length] at h2
    have ht : ((laysN ss n).take fr).length = fr := by rw [List.length_take, laysN_length]; omega
    by_cases c1 : i < fr
    · rw [List.getElem_append_left (by rw [List.length_append, ht, List.length_singleton]; omega), List.getElem_append_left (by omega), List.getElem_take, laysN_get]
      unfold ly
      rw [without_low ss fr tn i (by omega) (by omega), without_low ss fr tn (i + 1) (by omega) (by omega)]
    · by_cases c2 : i = fr
      · subst c2
        rw [List.getElem_append_left (by rw [List.length_append, ht, List.length_singleton]; omega), List.getElem_append_right (by omega)]
        simp only [ht, Nat.sub_self, List.getElem_cons_zero]
        unfold oneN ly
        rw [without_low ss i tn i (by omega) (Nat.le_refl _), show i + 1 = i + 1 + 0 by omega, without_high ss i tn 0 (by omega)]
        rw [show i + 1 + 0 + (tn - (i + 1 + 0)) = tn + 0 by omega]
      · obtain ⟨j, rfl⟩ : ∃ j, i = fr + 1 + j := ⟨i - (fr + 1), by omega⟩
        rw [List.getElem_append_right (by rw [List.length_append, ht, List.length_singleton]; omega), List.getElem_drop, laysN_get]
        unfold ly
        rw [without_high ss fr tn j (by omega), show fr + 1 + j + 1 = fr + 1 + (j + 1) by omega, without_high ss fr tn (j + 1) (by omega)]
        have e : ((laysN ss n).take fr ++ [oneN ss fr (tn - (fr + 1))]).length = fr + 1 := by rw [List.length_append, ht, List.length_singleton]
        rw [e, show tn + (fr + 1 + j - (fr + 1)) = tn + j by omega]
        rfl
end Go.Proofs.Ytdjamphmndbmjaa.M

/- The law ChainSame: its region that draws its order, by what each of its operations makes (printed by wip/gen_cs1.py). -/
namespace Go.Proofs.Ytdjamphmndbmjaa.M
open Go.RowKit Go.Proofs.YtdjamphmndbmjaaW.PrintWords Go.Proofs.YtdjamphmndbmjaaW.PrintLast Go.Proofs.YtdjamphmndbmjaaW.PrintMore
set_option linter.unusedVariables false
set_option linter.unusedSimpArgs false

def betwsOps : Array Oper := #[{ dst := some 92, op := Op.move (Operand.tmp 0), type := 78, pos := "law.go:646", after := #[], guard := none },
  { dst := some 93, op := Op.move (Operand.tmp 14), type := 3, pos := "law.go:646", after := #[], guard := none },
  { dst := some 94, op := Op.binOp BinOp.sub 3 (Operand.tmp 93) (Operand.const (Value.int IntKind.i64 1)) 3, type := 3, pos := "law.go:646", after := #[{ on := 1, ground := Ground.data }], guard := none },
  { dst := some 95, op := Op.indexAddr 78 (Operand.tmp 92) (Operand.tmp 94), type := 0, pos := "law.go:646", after := #[{ on := 0, ground := Ground.data }, { on := 2, ground := Ground.data }], guard := none },
  { dst := some 96, op := Op.load 26 (Operand.tmp 95), type := 26, pos := "law.go:646", after := #[{ on := 3, ground := Ground.data }], guard := none },
  { dst := some 97, op := Op.move (Operand.tmp 0), type := 78, pos := "law.go:646", after := #[], guard := none },
  { dst := some 98, op := Op.move (Operand.tmp 14), type := 3, pos := "law.go:646", after := #[], guard := none },
  { dst := some 99, op := Op.indexAddr 78 (Operand.tmp 97) (Operand.tmp 98), type := 0, pos := "law.go:646", after := #[{ on := 5, ground := Ground.data }, { on := 6, ground := Ground.data }], guard := none },
  { dst := some 100, op := Op.load 26 (Operand.tmp 99), type := 26, pos := "law.go:646", after := #[{ on := 7, ground := Ground.data }], guard := none },
  { dst := some 101, op := Op.call { callee := Callee.value (Operand.func 30), args := #[Operand.tmp 96, Operand.tmp 100], argTypes := #[26, 26] }, type := 70, pos := "law.go:646", after := #[{ on := 4, ground := Ground.data }, { on := 8, ground := Ground.data }], guard := none },
  { dst := some 91, op := Op.move (Operand.tmp 101), type := 70, pos := "law.go:646", after := #[{ on := 9, ground := Ground.data }], guard := none },
  { dst := some 102, op := Op.extract (Operand.tmp 91) 0, type := 69, pos := "law.go:646", after := #[{ on := 10, ground := Ground.data }], guard := none },
  { dst := some 103, op := Op.extract (Operand.tmp 91) 1, type := 31, pos := "law.go:646", after := #[{ on := 10, ground := Ground.data }, { on := 14, ground := Ground.gcOnly Departure.lateStores }], guard := none },
  { dst := some 15, op := Op.alloc 69, type := 0, pos := "law.go:646", after := #[], guard := none },
  { dst := none, op := Op.store 69 (Operand.tmp 15) (Operand.tmp 102), type := 0, pos := "law.go:646", after := #[{ on := 13, ground := Ground.data }, { on := 11, ground := Ground.data }, { on := 9, ground := Ground.chain }, { on := 0, ground := Ground.phase }, { on := 1, ground := Ground.phase }, { on := 2, ground := Ground.phase }, { on := 3, ground := Ground.phase }, { on := 4, ground := Ground.phase }, { on := 5, ground := Ground.phase }, { on := 6, ground := Ground.phase }, { on := 7, ground := Ground.phase }, { on := 8, ground := Ground.phase }, { on := 9, ground := Ground.phase }, { on := 10, ground := Ground.phase }, { on := 11, ground := Ground.phase }, { on := 12, ground := Ground.textOnly Departure.lateStores }, { on := 13, ground := Ground.phase }], guard := none },
  { dst := some 16, op := Op.assign (Operand.tmp 103), type := 31, pos := "law.go:646", after := #[{ on := 12, ground := Ground.data }, { on := 14, ground := Ground.chain }, { on := 0, ground := Ground.phase }, { on := 1, ground := Ground.phase }, { on := 2, ground := Ground.phase }, { on := 3, ground := Ground.phase }, { on := 4, ground := Ground.phase }, { on := 5, ground := Ground.phase }, { on := 6, ground := Ground.phase }, { on := 7, ground := Ground.phase }, { on := 8, ground := Ground.phase }, { on := 9, ground := Ground.phase }, { on := 10, ground := Ground.phase }, { on := 11, ground := Ground.phase }, { on := 12, ground := Ground.phase }, { on := 13, ground := Ground.phase }, { on := 14, ground := Ground.phase }], guard := none }]
theorem betws_apart : (betwsOps.toList.map (·.dst)).Pairwise fun d e => d = none ∨ d ≠ e := by decide +kernel
theorem betws_up : (List.range betwsOps.size).all (fun i => (betwsOps[i]?.map fun o => o.after.all fun e => !Region.binds .any e || decide (e.on < i)).getD true) = true := by decide +kernel
def betwsR (base : Nat) (W : World) (ad : Addr) (c0 n kk : Nat) (A1 : Option Addr) (c1 : Nat) (l1 : List S41) (A2 : Option Addr) (c2 : Nat) (l2 : List S41) (EV : Value) (la lt : List S41) (x : Nat → Value) (i : Nat) (w : World) : Prop :=
  match i with
  | 0 => x 0 = .slice (some ad) n c0
  | 1 => x 1 = .int .i64 ((kk : Int) + 1)
  | 2 => x 2 = .int .i64 (kk : Int)
  | 3 => x 3 = .pointer (some (ad.add kk))
  | 4 => x 4 = .slice A1 l1.length c1
  | 5 => x 5 = .slice (some ad) n c0
  | 6 => x 6 = .int .i64 ((kk : Int) + 1)
  | 7 => x 7 = .pointer (some (ad.add (kk + 1)))
  | 8 => x 8 = .slice A2 l2.length c2
  | 9 => ∃ v1 v2, x 9 = .tuple #[.agg #[v1, v2], EV] ∧ Kd.R k41 41 w base (fun _ => True) v1 la ∧ Kd.R k41 41 w base (fun _ => True) v2 lt
  | 10 => ∃ v1 v2, x 10 = .tuple #[.agg #[v1, v2], EV] ∧ Kd.R k41 41 w base (fun _ => True) v1 la ∧ Kd.R k41 41 w base (fun _ => True) v2 lt
  | 11 => ∃ v1 v2, x 11 = .agg #[v1, v2] ∧ Kd.R k41 41 w base (fun _ => True) v1 la ∧ Kd.R k41 41 w base (fun _ => True) v2 lt
  | 12 => x 12 = EV
  | 13 => ∃ b cs, x 13 = .pointer (some ⟨b, 0, none⟩) ∧ W.heap.size ≤ b ∧ cs.size = 2 ∧ w.heap[b]? = some (.cells cs 69 (0, 0))
  | 14 => ∃ b v1 v2, x 13 = .pointer (some ⟨b, 0, none⟩) ∧ x 11 = .agg #[v1, v2] ∧ W.heap.size ≤ b ∧ w.heap[b]? = some (.cells #[v1, v2] 69 (0, 0))
  | 15 => x 15 = EV
  | _ => True
def betwsJ (base : Nat) (W : World) (ad : Addr) (c0 n kk : Nat) (A1 : Option Addr) (c1 : Nat) (l1 : List S41) (A2 : Option Addr) (c2 : Nat) (l2 : List S41) (EV : Value) (la lt : List S41) (w : World) : Prop := Below W.heap.size W w ∧ base ≤ W.heap.size ∧ W.cell? (ad.add kk) = some (.slice A1 l1.length c1) ∧ W.cell? (ad.add (kk + 1)) = some (.slice A2 l2.length c2) ∧ Kd.C k41 W A1 l1.length l1 ∧ Kd.C k41 W A2 l2.length l2
theorem betws_Rx (base : Nat) (W : World) (ad : Addr) (c0 n kk : Nat) (A1 : Option Addr) (c1 : Nat) (l1 : List S41) (A2 : Option Addr) (c2 : Nat) (l2 : List S41) (EV : Value) (la lt : List S41) (x : Nat → Value) (y : Value) (i k : Nat) (w : World) (hd : ¬ Dep betwsOps i k) (h : betwsR base W ad c0 n kk A1 c1 l1 A2 c2 l2 EV la lt x i w) : betwsR base W ad c0 n kk A1 c1 l1 A2 c2 l2 EV la lt (upd x k y) i w := by
  have hi : i ≠ k := fun e => hd (e ▸ Dep.refl _)
  rcases i with _ | _ | _ | _ | _ | _ | _ | _ | _ | _ | _ | _ | _ | _ | _ | _ | i
  ·
    have e0 : upd x k y 0 = x 0 := upd_ne x y (hi)
    unfold betwsR at h ⊢
    simp only [e0]
    exact h
  ·
    have e1 : upd x k y 1 = x 1 := upd_ne x y (hi)
    unfold betwsR at h ⊢
    simp only [e1]
    exact h
  ·
    have e2 : upd x k y 2 = x 2 := upd_ne x y (hi)
    unfold betwsR at h ⊢
    simp only [e2]
    exact h
  ·
    have e3 : upd x k y 3 = x 3 := upd_ne x y (hi)
    unfold betwsR at h ⊢
    simp only [e3]
    exact h
  ·
    have e4 : upd x k y 4 = x 4 := upd_ne x y (hi)
    unfold betwsR at h ⊢
    simp only [e4]
    exact h
  ·
    have e5 : upd x k y 5 = x 5 := upd_ne x y (hi)
    unfold betwsR at h ⊢
    simp only [e5]
    exact h
  ·
    have e6 : upd x k y 6 = x 6 := upd_ne x y (hi)
    unfold betwsR at h ⊢
    simp only [e6]
    exact h
  ·
    have e7 : upd x k y 7 = x 7 := upd_ne x y (hi)
    unfold betwsR at h ⊢
    simp only [e7]
    exact h
  ·
    have e8 : upd x k y 8 = x 8 := upd_ne x y (hi)
    unfold betwsR at h ⊢
    simp only [e8]
    exact h
  ·
    have e9 : upd x k y 9 = x 9 := upd_ne x y (hi)
    unfold betwsR at h ⊢
    simp only [e9]
    exact h
  ·
    have e10 : upd x k y 10 = x 10 := upd_ne x y (hi)
    unfold betwsR at h ⊢
    simp only [e10]
    exact h
  ·
    have e11 : upd x k y 11 = x 11 := upd_ne x y (hi)
    unfold betwsR at h ⊢
    simp only [e11]
    exact h
  ·
    have e12 : upd x k y 12 = x 12 := upd_ne x y (hi)
    unfold betwsR at h ⊢
    simp only [e12]
    exact h
  ·
    have e13 : upd x k y 13 = x 13 := upd_ne x y (hi)
    unfold betwsR at h ⊢
    simp only [e13]
    exact h
  ·
    have e11 : upd x k y 11 = x 11 := upd_ne x y (fun e => hd (e ▸ dep_of 1 (by decide +kernel)))
    have e13 : upd x k y 13 = x 13 := upd_ne x y (fun e => hd (e ▸ dep_of 1 (by decide +kernel)))
    unfold betwsR at h ⊢
    simp only [e11, e13]
    exact h
  ·
    have e15 : upd x k y 15 = x 15 := upd_ne x y (hi)
    unfold betwsR at h ⊢
    simp only [e15]
    exact h
  · unfold betwsR; trivial
set_option maxHeartbeats 8000000 in
set_option maxRecDepth 100000 in
theorem betws_region (a : Act) (base : Nat) (W : World) (ad : Addr) (c0 n kk : Nat) (A1 : Option Addr) (c1 : Nat) (l1 : List S41) (A2 : Option Addr) (c2 : Nat) (l2 : List S41) (EV : Value) (la lt : List S41) (Q : Exit → Act → World → Prop) (hsz : a.tmps.size = 204) (t0 : a.tmps.getD 0 undef = .slice (some ad) n c0) (t14 : a.tmps.getD 14 undef = .int .i64 ((kk : Int) + 1)) (hw : IntKind.i64.wrap (kk : Int) = (kk : Int)) (hk : kk + 1 < n)
    (hcall : ∀ W', Kd.C k41 W' A1 l1.length l1 → Kd.C k41 W' A2 l2.length l2 → Calls Try.prog 30 #[.slice A1 l1.length c1, .slice A2 l2.length c2] W' fun e w' => ∃ v, e = .returned (.tuple #[v, EV]) ∧ LRow w' W'.heap.size v la lt ∧ Below W'.heap.size W' w')
    (hJ0 : betwsJ base W ad c0 n kk A1 c1 l1 A2 c2 l2 EV la lt  W.drew)
    (hend : ∀ x w' b v1 v2, Below W.heap.size W w' → x 13 = .pointer (some ⟨b, 0, none⟩) → W.heap.size ≤ b → w'.heap[b]? = some (.cells #[v1, v2] 69 (0, 0)) → Kd.R k41 41 w' base (fun _ => True) v1 la → Kd.R k41 41 w' base (fun _ => True) v2 lt → x 15 = EV → Q .normal (putAll a x betwsOps.toList 0) w') :
    (Code.region 16 betwsOps true).wp Try.prog Q a W := by
  have mixed : Try.prog.follows .mixedOrders = true := by kernel_rfl
  refine region_J mixed (fun up w => betwsJ base W ad c0 n kk A1 c1 l1 A2 c2 l2 EV la lt  w) (betwsR base W ad c0 n kk A1 c1 l1 A2 c2 l2 EV la lt) hJ0 betws_apart betws_up (betws_Rx base W ad c0 n kk A1 c1 l1 A2 c2 l2 EV la lt) ?_ ?_
  · intro up x i oi w' hoi hui hcl hJ hdep K hK
    have hget := fun (i d : Nat) (o : Oper) (ho : betwsOps.toList[i]? = some o) (hd : o.dst = some d) (hs : d < a.tmps.size) => putAll_get a x betwsOps.toList 0 i d o ho hd hs betws_apart
    have e0 : (putAll a x betwsOps.toList 0).tmps.getD 0 undef = .slice (some ad) n c0 := (putAll_other a x betwsOps.toList 0 0 (by decide +kernel)).trans t0
    have e14 : (putAll a x betwsOps.toList 0).tmps.getD 14 undef = .int .i64 ((kk : Int) + 1) := (putAll_other a x betwsOps.toList 0 14 (by decide +kernel)).trans t14
    have keep : ∀ w'', Below w'.heap.size w' w'' → ∀ j, betwsR base W ad c0 n kk A1 c1 l1 A2 c2 l2 EV la lt x j w' → betwsR base W ad c0 n kk A1 c1 l1 A2 c2 l2 EV la lt x j w'' := by
      intro w'' hb j hj
      rcases j with _ | _ | _ | _ | _ | _ | _ | _ | _ | _ | _ | _ | _ | _ | _ | _ | j
      · exact hj
      · exact hj
      · exact hj
      · exact hj
      · exact hj
      · exact hj
      · exact hj
      · exact hj
      · exact hj
      · obtain ⟨v1, v2, q1, q2, q3⟩ := hj; exact ⟨v1, v2, q1, Kd.R_below q2 hb, Kd.R_below q3 hb⟩
      · obtain ⟨v1, v2, q1, q2, q3⟩ := hj; exact ⟨v1, v2, q1, Kd.R_below q2 hb, Kd.R_below q3 hb⟩
      · obtain ⟨v1, v2, q1, q2, q3⟩ := hj; exact ⟨v1, v2, q1, Kd.R_below q2 hb, Kd.R_below q3 hb⟩
      · exact hj
      · obtain ⟨b, cs, q1, q2, q3, q4⟩ := hj; exact ⟨b, cs, q1, q2, q3, blk_below q4 hb⟩
      · obtain ⟨b, v1, v2, q1, q2, q3, q4⟩ := hj; exact ⟨b, v1, v2, q1, q2, q3, blk_below q4 hb⟩
      · exact hj
      · exact trivial
    have jb : ∀ w'', Below w'.heap.size w' w'' → betwsJ base W ad c0 n kk A1 c1 l1 A2 c2 l2 EV la lt  w'' := by
      intro w'' hb
      exact ⟨below_step hJ.1 hb, hJ.2⟩
    rcases i with _ | _ | _ | _ | _ | _ | _ | _ | _ | _ | _ | _ | _ | _ | _ | _ | i
    · injection hoi with hoi; subst hoi
      generalize putAll a x betwsOps.toList 0 = A at *
      have hrun : (execOp A.eval { dst := some 92, op := Op.move (Operand.tmp 0), type := 78, pos := "law.go:646", after := #[], guard := none }).run Try.prog w' = .ok (.value (.slice (some ad) n c0)) w' := by
        have fa0 : A.tmps.getD 0 undef = .slice (some ad) n c0 := e0
        have fb0 : A.tmps[0]?.getD undef = .slice (some ad) n c0 := by rw [← Array.getD_eq_getD_getElem?]; exact fa0
        clear hK keep hget hdep jb hcl e0 e14; go_simp
      exact event_step rfl hrun (hK.out _ _ hJ (fun j _ _ hj => hj) (upd_at _ _ _))
    · injection hoi with hoi; subst hoi
      generalize putAll a x betwsOps.toList 0 = A at *
      have hrun : (execOp A.eval { dst := some 93, op := Op.move (Operand.tmp 14), type := 3, pos := "law.go:646", after := #[], guard := none }).run Try.prog w' = .ok (.value (.int .i64 ((kk : Int) + 1))) w' := by
        have fa14 : A.tmps.getD 14 undef = .int .i64 ((kk : Int) + 1) := e14
        have fb14 : A.tmps[14]?.getD undef = .int .i64 ((kk : Int) + 1) := by rw [← Array.getD_eq_getD_getElem?]; exact fa14
        clear hK keep hget hdep jb hcl e0 e14; go_simp
      exact event_step rfl hrun (hK.out _ _ hJ (fun j _ _ hj => hj) (upd_at _ _ _))
    · injection hoi with hoi; subst hoi
      have d1 : betwsR base W ad c0 n kk A1 c1 l1 A2 c2 l2 EV la lt x 1 w' := (hdep { on := 1, ground := Ground.data } (by simp [betwsOps]) rfl).2
      have e93 : (putAll a x betwsOps.toList 0).tmps.getD 93 undef = x 1 := by have h := hget 1 93 _ (show betwsOps.toList[1]? = some _ from rfl) rfl (by rw [hsz]; decide); rw [Nat.zero_add] at h; exact h
      generalize putAll a x betwsOps.toList 0 = A at *
      have hrun : (execOp A.eval { dst := some 94, op := Op.binOp BinOp.sub 3 (Operand.tmp 93) (Operand.const (Value.int IntKind.i64 1)) 3, type := 3, pos := "law.go:646", after := #[{ on := 1, ground := Ground.data }], guard := none }).run Try.prog w' = .ok (.value (.int .i64 (kk : Int))) w' := by
        have fa93 : A.tmps.getD 93 undef = .int .i64 ((kk : Int) + 1) := e93.trans d1
        have fb93 : A.tmps[93]?.getD undef = .int .i64 ((kk : Int) + 1) := by rw [← Array.getD_eq_getD_getElem?]; exact fa93
        have hw2 := hw
        clear hK keep hget hdep jb hcl e0 e14 e93; go_simp
      exact event_step rfl hrun (hK.out _ _ hJ (fun j _ _ hj => hj) (upd_at _ _ _))
    · injection hoi with hoi; subst hoi
      have j1 := hJ.1; have j2 := hJ.2.1; have j3 := hJ.2.2.1; have j4 := hJ.2.2.2.1; have j5 := hJ.2.2.2.2.1; have j6 := hJ.2.2.2.2.2
      have d0 : betwsR base W ad c0 n kk A1 c1 l1 A2 c2 l2 EV la lt x 0 w' := (hdep { on := 0, ground := Ground.data } (by simp [betwsOps]) rfl).2
      have e92 : (putAll a x betwsOps.toList 0).tmps.getD 92 undef = x 0 := by have h := hget 0 92 _ (show betwsOps.toList[0]? = some _ from rfl) rfl (by rw [hsz]; decide); rw [Nat.zero_add] at h; exact h
      have d2 : betwsR base W ad c0 n kk A1 c1 l1 A2 c2 l2 EV la lt x 2 w' := (hdep { on := 2, ground := Ground.data } (by simp [betwsOps]) rfl).2
      have e94 : (putAll a x betwsOps.toList 0).tmps.getD 94 undef = x 2 := by have h := hget 2 94 _ (show betwsOps.toList[2]? = some _ from rfl) rfl (by rw [hsz]; decide); rw [Nat.zero_add] at h; exact h
      generalize putAll a x betwsOps.toList 0 = A at *
      have hrun : (execOp A.eval { dst := some 95, op := Op.indexAddr 78 (Operand.tmp 92) (Operand.tmp 94), type := 0, pos := "law.go:646", after := #[{ on := 0, ground := Ground.data }, { on := 2, ground := Ground.data }], guard := none }).run Try.prog w' = .ok (.value (.pointer (some (ad.add kk)))) w' := by
        have fa92 : A.tmps.getD 92 undef = .slice (some ad) n c0 := e92.trans d0
        have fb92 : A.tmps[92]?.getD undef = .slice (some ad) n c0 := by rw [← Array.getD_eq_getD_getElem?]; exact fa92
        have fa94 : A.tmps.getD 94 undef = .int .i64 (kk : Int) := e94.trans d2
        have fb94 : A.tmps[94]?.getD undef = .int .i64 (kk : Int) := by rw [← Array.getD_eq_getD_getElem?]; exact fa94
        have b0 : (0 : Int) ≤ (kk : Int) := Int.natCast_nonneg _
        have b1 : (kk : Int) + 1 < (n : Int) := by omega
        have b2 : (kk : Int) < (n : Int) := by omega
        have b3 : (0 : Int) ≤ (kk : Int) + 1 := by omega
        have b4 : ((kk : Int) + 1).toNat = kk + 1 := by omega
        have hu := Try.underlying78
        clear j1 j2 j3 j4 j5 j6
        clear hK keep hget hdep jb hcl e0 e14 e92 e94; go_simp
      exact event_step rfl hrun (hK.out _ _ hJ (fun j _ _ hj => hj) (upd_at _ _ _))
    · injection hoi with hoi; subst hoi
      have j1 := hJ.1; have j2 := hJ.2.1; have j3 := hJ.2.2.1; have j4 := hJ.2.2.2.1; have j5 := hJ.2.2.2.2.1; have j6 := hJ.2.2.2.2.2
      have d3 : betwsR base W ad c0 n kk A1 c1 l1 A2 c2 l2 EV la lt x 3 w' := (hdep { on := 3, ground := Ground.data } (by simp [betwsOps]) rfl).2
      have e95 : (putAll a x betwsOps.toList 0).tmps.getD 95 undef = x 3 := by have h := hget 3 95 _ (show betwsOps.toList[3]? = some _ from rfl) rfl (by rw [hsz]; decide); rw [Nat.zero_add] at h; exact h
      generalize putAll a x betwsOps.toList 0 = A at *
      have hrun : (execOp A.eval { dst := some 96, op := Op.load 26 (Operand.tmp 95), type := 26, pos := "law.go:646", after := #[{ on := 3, ground := Ground.data }], guard := none }).run Try.prog w' = .ok (.value (.slice A1 l1.length c1)) w' := by
        have fa95 : A.tmps.getD 95 undef = .pointer (some (ad.add kk)) := e95.trans d3
        have fb95 : A.tmps[95]?.getD undef = .pointer (some (ad.add kk)) := by rw [← Array.getD_eq_getD_getElem?]; exact fa95
        have m1 := (j1.cell (World.block_lt_of_cell? _ _ j3)).trans j3
        clear j1 j2 j3 j4 j5 j6
        clear hK keep hget hdep jb hcl e0 e14 e95; go_simp
      exact event_step rfl hrun (hK.out _ _ hJ (fun j _ _ hj => hj) (upd_at _ _ _))
    · injection hoi with hoi; subst hoi
      generalize putAll a x betwsOps.toList 0 = A at *
      have hrun : (execOp A.eval { dst := some 97, op := Op.move (Operand.tmp 0), type := 78, pos := "law.go:646", after := #[], guard := none }).run Try.prog w' = .ok (.value (.slice (some ad) n c0)) w' := by
        have fa0 : A.tmps.getD 0 undef = .slice (some ad) n c0 := e0
        have fb0 : A.tmps[0]?.getD undef = .slice (some ad) n c0 := by rw [← Array.getD_eq_getD_getElem?]; exact fa0
        clear hK keep hget hdep jb hcl e0 e14; go_simp
      exact event_step rfl hrun (hK.out _ _ hJ (fun j _ _ hj => hj) (upd_at _ _ _))
    · injection hoi with hoi; subst hoi
      generalize putAll a x betwsOps.toList 0 = A at *
      have hrun : (execOp A.eval { dst := some 98, op := Op.move (Operand.tmp 14), type := 3, pos := "law.go:646", after := #[], guard := none }).run Try.prog w' = .ok (.value (.int .i64 ((kk : Int) + 1))) w' := by
        have fa14 : A.tmps.getD 14 undef = .int .i64 ((kk : Int) + 1) := e14
        have fb14 : A.tmps[14]?.getD undef = .int .i64 ((kk : Int) + 1) := by rw [← Array.getD_eq_getD_getElem?]; exact fa14
        clear hK keep hget hdep jb hcl e0 e14; go_simp
      exact event_step rfl hrun (hK.out _ _ hJ (fun j _ _ hj => hj) (upd_at _ _ _))
    · injection hoi with hoi; subst hoi
      have j1 := hJ.1; have j2 := hJ.2.1; have j3 := hJ.2.2.1; have j4 := hJ.2.2.2.1; have j5 := hJ.2.2.2.2.1; have j6 := hJ.2.2.2.2.2
      have d5 : betwsR base W ad c0 n kk A1 c1 l1 A2 c2 l2 EV la lt x 5 w' := (hdep { on := 5, ground := Ground.data } (by simp [betwsOps]) rfl).2
      have e97 : (putAll a x betwsOps.toList 0).tmps.getD 97 undef = x 5 := by have h := hget 5 97 _ (show betwsOps.toList[5]? = some _ from rfl) rfl (by rw [hsz]; decide); rw [Nat.zero_add] at h; exact h
      have d6 : betwsR base W ad c0 n kk A1 c1 l1 A2 c2 l2 EV la lt x 6 w' := (hdep { on := 6, ground := Ground.data } (by simp [betwsOps]) rfl).2
      have e98 : (putAll a x betwsOps.toList 0).tmps.getD 98 undef = x 6 := by have h := hget 6 98 _ (show betwsOps.toList[6]? = some _ from rfl) rfl (by rw [hsz]; decide); rw [Nat.zero_add] at h; exact h
      generalize putAll a x betwsOps.toList 0 = A at *
      have hrun : (execOp A.eval { dst := some 99, op := Op.indexAddr 78 (Operand.tmp 97) (Operand.tmp 98), type := 0, pos := "law.go:646", after := #[{ on := 5, ground := Ground.data }, { on := 6, ground := Ground.data }], guard := none }).run Try.prog w' = .ok (.value (.pointer (some (ad.add (kk + 1))))) w' := by
        have fa97 : A.tmps.getD 97 undef = .slice (some ad) n c0 := e97.trans d5
        have fb97 : A.tmps[97]?.getD undef = .slice (some ad) n c0 := by rw [← Array.getD_eq_getD_getElem?]; exact fa97
        have fa98 : A.tmps.getD 98 undef = .int .i64 ((kk : Int) + 1) := e98.trans d6
        have fb98 : A.tmps[98]?.getD undef = .int .i64 ((kk : Int) + 1) := by rw [← Array.getD_eq_getD_getElem?]; exact fa98
        have b0 : (0 : Int) ≤ (kk : Int) := Int.natCast_nonneg _
        have b1 : (kk : Int) + 1 < (n : Int) := by omega
        have b2 : (kk : Int) < (n : Int) := by omega
        have b3 : (0 : Int) ≤ (kk : Int) + 1 := by omega
        have b4 : ((kk : Int) + 1).toNat = kk + 1 := by omega
        have hu := Try.underlying78
        clear j1 j2 j3 j4 j5 j6
        clear hK keep hget hdep jb hcl e0 e14 e97 e98; go_simp
      exact event_step rfl hrun (hK.out _ _ hJ (fun j _ _ hj => hj) (upd_at _ _ _))
    · injection hoi with hoi; subst hoi
      have j1 := hJ.1; have j2 := hJ.2.1; have j3 := hJ.2.2.1; have j4 := hJ.2.2.2.1; have j5 := hJ.2.2.2.2.1; have j6 := hJ.2.2.2.2.2
      have d7 : betwsR base W ad c0 n kk A1 c1 l1 A2 c2 l2 EV la lt x 7 w' := (hdep { on := 7, ground := Ground.data } (by simp [betwsOps]) rfl).2
      have e99 : (putAll a x betwsOps.toList 0).tmps.getD 99 undef = x 7 := by have h := hget 7 99 _ (show betwsOps.toList[7]? = some _ from rfl) rfl (by rw [hsz]; decide); rw [Nat.zero_add] at h; exact h
      generalize putAll a x betwsOps.toList 0 = A at *
      have hrun : (execOp A.eval { dst := some 100, op := Op.load 26 (Operand.tmp 99), type := 26, pos := "law.go:646", after := #[{ on := 7, ground := Ground.data }], guard := none }).run Try.prog w' = .ok (.value (.slice A2 l2.length c2)) w' := by
        have fa99 : A.tmps.getD 99 undef = .pointer (some (ad.add (kk + 1))) := e99.trans d7
        have fb99 : A.tmps[99]?.getD undef = .pointer (some (ad.add (kk + 1))) := by rw [← Array.getD_eq_getD_getElem?]; exact fa99
        have m1 := (j1.cell (World.block_lt_of_cell? _ _ j4)).trans j4
        have m2 : w'.cell? ⟨ad.block, ad.off + (kk + 1), none⟩ = some (.slice A2 l2.length c2) := m1
        clear j1 j2 j3 j4 j5 j6
        clear hK keep hget hdep jb hcl e0 e14 e99; go_simp
      exact event_step rfl hrun (hK.out _ _ hJ (fun j _ _ hj => hj) (upd_at _ _ _))
    · injection hoi with hoi; subst hoi
      have j1 := hJ.1; have j2 := hJ.2.1; have j3 := hJ.2.2.1; have j4 := hJ.2.2.2.1; have j5 := hJ.2.2.2.2.1; have j6 := hJ.2.2.2.2.2
      have d4 : betwsR base W ad c0 n kk A1 c1 l1 A2 c2 l2 EV la lt x 4 w' := (hdep { on := 4, ground := Ground.data } (by simp [betwsOps]) rfl).2
      have e96 : (putAll a x betwsOps.toList 0).tmps.getD 96 undef = x 4 := by have h := hget 4 96 _ (show betwsOps.toList[4]? = some _ from rfl) rfl (by rw [hsz]; decide); rw [Nat.zero_add] at h; exact h
      have d8 : betwsR base W ad c0 n kk A1 c1 l1 A2 c2 l2 EV la lt x 8 w' := (hdep { on := 8, ground := Ground.data } (by simp [betwsOps]) rfl).2
      have e100 : (putAll a x betwsOps.toList 0).tmps.getD 100 undef = x 8 := by have h := hget 8 100 _ (show betwsOps.toList[8]? = some _ from rfl) rfl (by rw [hsz]; decide); rw [Nat.zero_add] at h; exact h
      generalize putAll a x betwsOps.toList 0 = A at *
      refine goes_ Try.func30 (by kernel_rfl) rfl #[.slice A1 l1.length c1, .slice A2 l2.length c2] rfl rfl rfl (by have q1 : A.eval (.tmp 96) = .slice A1 l1.length c1 := e96.trans d4; have q2 : A.eval (.tmp 100) = .slice A2 l2.length c2 := e100.trans d8; simp only [List.map_toArray, List.map_cons, List.map_nil, q1, q2]) ((hcall w' (Kd.C_below j5 j1) (Kd.C_below j6 j1)).mono ?_)
      rintro e w'' ⟨v, rfl, hv, hb⟩
      refine ⟨_, rfl, hK.out _ _ (jb _ hb) (fun j _ _ hj => keep _ hb j hj) ?_⟩
      obtain ⟨v1, v2, rfl, h1, h2⟩ := hv.lower (Nat.le_trans j2 j1.size)
      exact ⟨v1, v2, upd_at _ _ _, h1, h2⟩
    · injection hoi with hoi; subst hoi
      have d9 : betwsR base W ad c0 n kk A1 c1 l1 A2 c2 l2 EV la lt x 9 w' := (hdep { on := 9, ground := Ground.data } (by simp [betwsOps]) rfl).2
      have e101 : (putAll a x betwsOps.toList 0).tmps.getD 101 undef = x 9 := by have h := hget 9 101 _ (show betwsOps.toList[9]? = some _ from rfl) rfl (by rw [hsz]; decide); rw [Nat.zero_add] at h; exact h
      generalize putAll a x betwsOps.toList 0 = A at *
      obtain ⟨v1, v2, ev, h1, h2⟩ := id d9
      obtain ⟨Ax, cx, ex⟩ := Kd.R_slice h1; obtain ⟨Ay, cy, ey⟩ := Kd.R_slice h2
      subst ex; subst ey
      have hrun : (execOp A.eval { dst := some 91, op := Op.move (Operand.tmp 101), type := 70, pos := "law.go:646", after := #[{ on := 9, ground := Ground.data }], guard := none }).run Try.prog w' = .ok (.value (.tuple #[.agg #[.slice Ax la.length cx, .slice Ay lt.length cy], EV])) w' := by
        have fa101 : A.tmps.getD 101 undef = .tuple #[.agg #[.slice Ax la.length cx, .slice Ay lt.length cy], EV] := e101.trans ev
        have fb101 : A.tmps[101]?.getD undef = .tuple #[.agg #[.slice Ax la.length cx, .slice Ay lt.length cy], EV] := by rw [← Array.getD_eq_getD_getElem?]; exact fa101
        clear hK keep hget hdep jb hcl e0 e14 e101 ev d9
        go_simp
      exact event_step rfl hrun (hK.out _ _ hJ (fun j _ _ hj => hj) ⟨_, _, upd_at _ _ _, h1, h2⟩)
    · injection hoi with hoi; subst hoi
      have d10 : betwsR base W ad c0 n kk A1 c1 l1 A2 c2 l2 EV la lt x 10 w' := (hdep { on := 10, ground := Ground.data } (by simp [betwsOps]) rfl).2
      have e91 : (putAll a x betwsOps.toList 0).tmps.getD 91 undef = x 10 := by have h := hget 10 91 _ (show betwsOps.toList[10]? = some _ from rfl) rfl (by rw [hsz]; decide); rw [Nat.zero_add] at h; exact h
      generalize putAll a x betwsOps.toList 0 = A at *
      obtain ⟨v1, v2, ev, h1, h2⟩ := id d10
      obtain ⟨Ax, cx, ex⟩ := Kd.R_slice h1; obtain ⟨Ay, cy, ey⟩ := Kd.R_slice h2
      subst ex; subst ey
      have hrun : (execOp A.eval { dst := some 102, op := Op.extract (Operand.tmp 91) 0, type := 69, pos := "law.go:646", after := #[{ on := 10, ground := Ground.data }], guard := none }).run Try.prog w' = .ok (.value (.agg #[.slice Ax la.length cx, .slice Ay lt.length cy])) w' := by
        have fa91 : A.tmps.getD 91 undef = .tuple #[.agg #[.slice Ax la.length cx, .slice Ay lt.length cy], EV] := e91.trans ev
        have fb91 : A.tmps[91]?.getD undef = .tuple #[.agg #[.slice Ax la.length cx, .slice Ay lt.length cy], EV] := by rw [← Array.getD_eq_getD_getElem?]; exact fa91
        clear hK keep hget hdep jb hcl e0 e14 e91 ev d10
        go_simp
      exact event_step rfl hrun (hK.out _ _ hJ (fun j _ _ hj => hj) ⟨_, _, upd_at _ _ _, h1, h2⟩)
    · injection hoi with hoi; subst hoi
      have d10 : betwsR base W ad c0 n kk A1 c1 l1 A2 c2 l2 EV la lt x 10 w' := (hdep { on := 10, ground := Ground.data } (by simp [betwsOps]) rfl).2
      have e91 : (putAll a x betwsOps.toList 0).tmps.getD 91 undef = x 10 := by have h := hget 10 91 _ (show betwsOps.toList[10]? = some _ from rfl) rfl (by rw [hsz]; decide); rw [Nat.zero_add] at h; exact h
      generalize putAll a x betwsOps.toList 0 = A at *
      obtain ⟨v1, v2, ev, h1, h2⟩ := id d10
      obtain ⟨Ax, cx, ex⟩ := Kd.R_slice h1; obtain ⟨Ay, cy, ey⟩ := Kd.R_slice h2
      subst ex; subst ey
      have hrun : (execOp A.eval { dst := some 103, op := Op.extract (Operand.tmp 91) 1, type := 31, pos := "law.go:646", after := #[{ on := 10, ground := Ground.data }, { on := 14, ground := Ground.gcOnly Departure.lateStores }], guard := none }).run Try.prog w' = .ok (.value (EV)) w' := by
        have fa91 : A.tmps.getD 91 undef = .tuple #[.agg #[.slice Ax la.length cx, .slice Ay lt.length cy], EV] := e91.trans ev
        have fb91 : A.tmps[91]?.getD undef = .tuple #[.agg #[.slice Ax la.length cx, .slice Ay lt.length cy], EV] := by rw [← Array.getD_eq_getD_getElem?]; exact fa91
        clear hK keep hget hdep jb hcl e0 e14 e91 ev d10
        go_simp
      exact event_step rfl hrun (hK.out _ _ hJ (fun j _ _ hj => hj) (upd_at _ _ _))
    · injection hoi with hoi; subst hoi
      have j1 := hJ.1; have j2 := hJ.2.1; have j3 := hJ.2.2.1; have j4 := hJ.2.2.2.1; have j5 := hJ.2.2.2.2.1; have j6 := hJ.2.2.2.2.2
      generalize putAll a x betwsOps.toList 0 = A at *
      have hrun : (execOp A.eval { dst := some 15, op := Op.alloc 69, type := 0, pos := "law.go:646", after := #[], guard := none }).run Try.prog w' = .ok (.value (.pointer (some ⟨w'.heap.size, 0, none⟩))) (w'.alloc (.cells #[.slice none 0 0, .slice none 0 0] 69 (0, 0))) := by
        have hu := Try.underlying69
        clear hK keep hget hdep jb hcl e0 e14 j1 j2 j3 j4 j5 j6
        go_simp
      have hb := below_alloc (Below.refl w'.heap.size w') (.cells #[.slice none 0 0, .slice none 0 0] 69 (0, 0))
      refine event_step rfl hrun (hK.out _ _ (jb _ hb) (fun j _ _ hj => keep _ hb j hj) ⟨w'.heap.size, _, upd_at _ _ _, j1.size, rfl, blk_new _ _⟩)
    · injection hoi with hoi; subst hoi
      have j1 := hJ.1; have j2 := hJ.2.1; have j3 := hJ.2.2.1; have j4 := hJ.2.2.2.1; have j5 := hJ.2.2.2.2.1; have j6 := hJ.2.2.2.2.2
      have d13 : betwsR base W ad c0 n kk A1 c1 l1 A2 c2 l2 EV la lt x 13 w' := (hdep { on := 13, ground := Ground.data } (by simp [betwsOps]) rfl).2
      have e15 : (putAll a x betwsOps.toList 0).tmps.getD 15 undef = x 13 := by have h := hget 13 15 _ (show betwsOps.toList[13]? = some _ from rfl) rfl (by rw [hsz]; decide); rw [Nat.zero_add] at h; exact h
      have d11 : betwsR base W ad c0 n kk A1 c1 l1 A2 c2 l2 EV la lt x 11 w' := (hdep { on := 11, ground := Ground.data } (by simp [betwsOps]) rfl).2
      have e102 : (putAll a x betwsOps.toList 0).tmps.getD 102 undef = x 11 := by have h := hget 11 102 _ (show betwsOps.toList[11]? = some _ from rfl) rfl (by rw [hsz]; decide); rw [Nat.zero_add] at h; exact h
      generalize putAll a x betwsOps.toList 0 = A at *
      obtain ⟨b, cs, x13, hWb, hcs, hbk⟩ := id d13
      obtain ⟨v1, v2, x11, h1, h2⟩ := id d11
      obtain ⟨Ax, cx, ex⟩ := Kd.R_slice h1; obtain ⟨Ay, cy, ey⟩ := Kd.R_slice h2
      subst ex; subst ey
      obtain ⟨y0, y1, rfl⟩ : ∃ y0 y1, cs = #[y0, y1] := by
        obtain ⟨cs⟩ := cs
        match cs, hcs with
        | [y0, y1], _ => exact ⟨y0, y1, rfl⟩
      have k0 : w'.cell? ⟨b, 0, none⟩ = some y0 := (blk_cell hbk 0).trans rfl; have k1' : w'.cell? ⟨b, 1, none⟩ = some y1 := (blk_cell hbk 1).trans rfl; have f0 : w'.frozen? ⟨b, 0, none⟩ = false := blk_frozen hbk 0; have f1 : w'.frozen? ⟨b, 1, none⟩ = false := blk_frozen hbk 1
      have hrun : (execOp A.eval { dst := none, op := Op.store 69 (Operand.tmp 15) (Operand.tmp 102), type := 0, pos := "law.go:646", after := #[{ on := 13, ground := Ground.data }, { on := 11, ground := Ground.data }, { on := 9, ground := Ground.chain }, { on := 0, ground := Ground.phase }, { on := 1, ground := Ground.phase }, { on := 2, ground := Ground.phase }, { on := 3, ground := Ground.phase }, { on := 4, ground := Ground.phase }, { on := 5, ground := Ground.phase }, { on := 6, ground := Ground.phase }, { on := 7, ground := Ground.phase }, { on := 8, ground := Ground.phase }, { on := 9, ground := Ground.phase }, { on := 10, ground := Ground.phase }, { on := 11, ground := Ground.phase }, { on := 12, ground := Ground.textOnly Departure.lateStores }, { on := 13, ground := Ground.phase }], guard := none }).run Try.prog w' = .ok .skip ((w'.setCell ⟨b, 0, none⟩ (.slice Ax la.length cx)).setCell ⟨b, 1, none⟩ (.slice Ay lt.length cy)) := by
        have fa15 : A.tmps.getD 15 undef = .pointer (some ⟨b, 0, none⟩) := e15.trans x13
        have fb15 : A.tmps[15]?.getD undef = .pointer (some ⟨b, 0, none⟩) := by rw [← Array.getD_eq_getD_getElem?]; exact fa15
        have fa102 : A.tmps.getD 102 undef = .agg #[.slice Ax la.length cx, .slice Ay lt.length cy] := e102.trans x11
        have fb102 : A.tmps[102]?.getD undef = .agg #[.slice Ax la.length cx, .slice Ay lt.length cy] := by rw [← Array.getD_eq_getD_getElem?]; exact fa102
        have hu := Try.underlying69
        clear hK keep hget hdep jb hcl j1 j2 j3 j4 j5 j6 e0 e14 e15 e102 x13 x11 d11 d13 hbk h1 h2
        go_simp
      refine skip_step rfl hrun (hK.out _ _ ⟨below_set (below_set j1 hWb) hWb, hJ.2⟩ (fun j hjn hjup hj => ?_) ?_)
      · 
        rcases j with _ | _ | _ | _ | _ | _ | _ | _ | _ | _ | _ | _ | _ | _ | _ | _ | j
        · exact hj
        · exact hj
        · exact hj
        · exact hj
        · exact hj
        · exact hj
        · exact hj
        · exact hj
        · exact hj
        · obtain ⟨v1, v2, q1, q2, q3⟩ := hj; exact ⟨v1, v2, q1, Kd.R_set (Kd.R_set q2 hbk (by decide) 0 _) (blk_put hbk 0 _ rfl) (by decide) 1 _, Kd.R_set (Kd.R_set q3 hbk (by decide) 0 _) (blk_put hbk 0 _ rfl) (by decide) 1 _⟩
        · obtain ⟨v1, v2, q1, q2, q3⟩ := hj; exact ⟨v1, v2, q1, Kd.R_set (Kd.R_set q2 hbk (by decide) 0 _) (blk_put hbk 0 _ rfl) (by decide) 1 _, Kd.R_set (Kd.R_set q3 hbk (by decide) 0 _) (blk_put hbk 0 _ rfl) (by decide) 1 _⟩
        · obtain ⟨v1, v2, q1, q2, q3⟩ := hj; exact ⟨v1, v2, q1, Kd.R_set (Kd.R_set q2 hbk (by decide) 0 _) (blk_put hbk 0 _ rfl) (by decide) 1 _, Kd.R_set (Kd.R_set q3 hbk (by decide) 0 _) (blk_put hbk 0 _ rfl) (by decide) 1 _⟩
        · exact hj
        · exact ⟨b, _, x13, hWb, rfl, blk_put (blk_put hbk 0 _ rfl) 1 _ rfl⟩
        · exact absurd rfl hjn
        · exact hj
        · exact trivial
      · exact ⟨b, _, _, (upd_ne x _ (by decide)).trans x13, (upd_ne x _ (by decide)).trans x11, hWb, blk_put (blk_put hbk 0 _ rfl) 1 _ rfl⟩
    · injection hoi with hoi; subst hoi
      have d12 : betwsR base W ad c0 n kk A1 c1 l1 A2 c2 l2 EV la lt x 12 w' := (hdep { on := 12, ground := Ground.data } (by simp [betwsOps]) rfl).2
      have e103 : (putAll a x betwsOps.toList 0).tmps.getD 103 undef = x 12 := by have h := hget 12 103 _ (show betwsOps.toList[12]? = some _ from rfl) rfl (by rw [hsz]; decide); rw [Nat.zero_add] at h; exact h
      generalize putAll a x betwsOps.toList 0 = A at *
      have hrun : (execOp A.eval { dst := some 16, op := Op.assign (Operand.tmp 103), type := 31, pos := "law.go:646", after := #[{ on := 12, ground := Ground.data }, { on := 14, ground := Ground.chain }, { on := 0, ground := Ground.phase }, { on := 1, ground := Ground.phase }, { on := 2, ground := Ground.phase }, { on := 3, ground := Ground.phase }, { on := 4, ground := Ground.phase }, { on := 5, ground := Ground.phase }, { on := 6, ground := Ground.phase }, { on := 7, ground := Ground.phase }, { on := 8, ground := Ground.phase }, { on := 9, ground := Ground.phase }, { on := 10, ground := Ground.phase }, { on := 11, ground := Ground.phase }, { on := 12, ground := Ground.phase }, { on := 13, ground := Ground.phase }, { on := 14, ground := Ground.phase }], guard := none }).run Try.prog w' = .ok (.value (EV)) w' := by
        have fa103 : A.tmps.getD 103 undef = EV := e103.trans d12
        have fb103 : A.tmps[103]?.getD undef = EV := by rw [← Array.getD_eq_getD_getElem?]; exact fa103
        clear hK keep hget hdep jb hcl e0 e14 e103; go_simp
      exact event_step rfl hrun (hK.out _ _ hJ (fun j _ _ hj => hj) (upd_at _ _ _))
    · cases hoi
  · intro up x w' hall hJ hR
    obtain ⟨v1, v2, x11, h1, h2⟩ : ∃ v1 v2, x 11 = .agg #[v1, v2] ∧ Kd.R k41 41 w' base (fun _ => True) v1 la ∧ Kd.R k41 41 w' base (fun _ => True) v2 lt := hR 11 (by decide +kernel)
    obtain ⟨b, u1, u2, x13, x11', hWb, hbk⟩ : ∃ b v1 v2, x 13 = .pointer (some ⟨b, 0, none⟩) ∧ x 11 = .agg #[v1, v2] ∧ W.heap.size ≤ b ∧ w'.heap[b]? = some (.cells #[v1, v2] 69 (0, 0)) := hR 14 (by decide +kernel)
    obtain ⟨rfl, rfl⟩ : v1 = u1 ∧ v2 = u2 := by have h := x11.symm.trans x11'; simpa using h
    exact hend x w' b v1 v2 hJ.1 x13 hWb hbk h1 h2 (hR 15 (by decide +kernel))
end Go.Proofs.Ytdjamphmndbmjaa.M

/- (*chain.Chain).Squash asked for what is not there: it says so, and nothing changes. -/
namespace Go.Proofs.Ytdjamphmndbmjaa.M
open Go.RowKit Go.Proofs.YtdjamphmndbmjaaW.PrintWords Go.Proofs.YtdjamphmndbmjaaW.PrintLast Go.Proofs.YtdjamphmndbmjaaW.PrintMore
set_option linter.unusedVariables false
set_option linter.unusedSimpArgs false

set_option maxHeartbeats 4000000 in
set_option maxRecDepth 100000 in
theorem squash_range (g base : Nat) (fr tn : Int) (bot : List S41) (lays : List S69) (w : World) (hC : Chn w g base bot lays) (hbad : fr < 1 ∨ (lays.length : Int) < tn ∨ tn < fr) :
    Calls Try.prog 40 #[.pointer (some ⟨g, 0, none⟩), .int .i64 fr, .int .i64 tn] w fun e w' => (∃ n, e = .returned (.iface 23 (.int .i64 n))) ∧ Below w.heap.size w w' := by
  obtain ⟨Ab, cb, Al, cl, k0, k1, -, -, -, -⟩ := hC.cells
  clear hC k0
  have HB := Aside0.mk (Below.refl w.heap.size w)
  by_cases h1 : fr < 1
  · clear hbad
    go_enter Try.func40, Try.ntmps40
    go_wp2
    go_ret
    exact ⟨⟨_, rfl⟩, HB.out⟩
  · by_cases h2 : (lays.length : Int) < tn
    · clear hbad
      have h3 : decide ((lays.length : Int) < tn) = true := decide_eq_true h2
      go_enter Try.func40, Try.ntmps40
      go_wp2
      go_ret
      exact ⟨⟨_, rfl⟩, HB.out⟩
    · have h3 : tn < fr := by omega
      clear hbad
      go_enter Try.func40, Try.ntmps40
      go_wp2
      go_ret
      exact ⟨⟨_, rfl⟩, HB.out⟩
end Go.Proofs.Ytdjamphmndbmjaa.M

/- The law ChainSame: what the first chain answers, in plain words (printed by wip/gen_cs3.py). -/
namespace Go.Proofs.Ytdjamphmndbmjaa.M
open Go.RowKit Go.Proofs.YtdjamphmndbmjaaW.PrintWords Go.Proofs.YtdjamphmndbmjaaW.PrintLast Go.Proofs.YtdjamphmndbmjaaW.PrintMore
set_option linter.unusedVariables false
set_option linter.unusedSimpArgs false

def xlay : S69 := ⟨[xabc], []⟩
theorem all_x : AllS [[], [xabc]] 1 := by
  intro i hi
  rcases i with _ | _ | i
  · exact sorted_nil
  · exact sorted_one chk_xabc
  · omega
theorem lays_x : laysN [[], [xabc]] 1 = [xlay] := rfl
theorem hap_x : applyR (graphR [] []) [xabc] [] = ([xabc], none) := apply_lay (ss := [[], [xabc]]) (n := 0) all_x
theorem gok_nil (b : List S41) : GOk b [] := fun i h => absurd h (Nat.not_lt_zero _)
theorem gok_x : GOk [] [xlay] := gok_lays all_x
theorem graph_x : graphR [] ([xlay].take 1) = [xabc] := graph_lays all_x 1 (Nat.le_refl _)
theorem chn_ne {w : World} {g base : Nat} {bot : List S41} {lays : List S69} (h : Chn w g base bot lays) : g < w.heap.size ∧ ∀ v1 v2, w.heap[g]? = some (.cells #[v1, v2] 116 (0, 0)) → some w.heap.size ≠ v2.ownBlock := by
  obtain ⟨vb, vl, hg, hbg, hRb, hRl⟩ := h
  refine ⟨blk_lt hg, fun v1 v2 h e => ?_⟩
  rw [hg] at h
  obtain rfl : vl = v2 := by simpa using (by simpa using h : vb = v1 ∧ vl = v2).2
  exact Nat.lt_irrefl _ (Kd.R_lt hRl _ e.symm)
theorem all_zero {ss : List (List S41)} {s : List S41} (h : ss.getD 0 [] = s) (hs : sortedR s = none) : AllS ss 0 := by
  intro i hi
  obtain rfl : i = 0 := by omega
  rw [h]
  exact hs
theorem all_succ {ss : List (List S41)} {i : Nat} (h : AllS ss i) (hs : sortedR (ss.getD (i + 1) []) = none) : AllS ss (i + 1) := by
  intro k hk
  by_cases hk' : k ≤ i
  · exact h k hk'
  · obtain rfl : k = i + 1 := by omega
    exact hs
theorem at_set {w : World} {A : Option Addr} {ss : List (List S41)} (h : Kd.C (Kd.slice 41 k41) w A ss.length ss) (i : Nat) (hi : i < ss.length) : ∃ ad A0 c0, A = some ad ∧ w.cell? (ad.add i) = some (.slice A0 (ss.getD i []).length c0) ∧ (ss.getD i []).length ≤ c0 ∧ k41.C w A0 (ss.getD i []).length (ss.getD i []) := by
  obtain ⟨ad, A0, c0, e, z, l, C⟩ := at_L8 h (i : Int) (by omega) (by omega)
  exact ⟨ad, A0, c0, e, z, l, C⟩
end Go.Proofs.Ytdjamphmndbmjaa.M

/- The law ChainSame, walked by hand (printed by wip/gen_cs3.py). -/
namespace Go.Proofs.Ytdjamphmndbmjaa.M
open Go.RowKit Go.Proofs.YtdjamphmndbmjaaW.PrintWords Go.Proofs.YtdjamphmndbmjaaW.PrintLast Go.Proofs.YtdjamphmndbmjaaW.PrintMore
set_option linter.unusedVariables false
set_option linter.unusedSimpArgs false

attribute [local go_sem high] eqTR
set_option maxHeartbeats 16000000 in
set_option maxRecDepth 100000 in
theorem chainSame_walk (A0 : Option Addr) (c0 : Nat) (ss : List (List S41)) (fr tn : Int) (w : World) (hr : Kd.C (Kd.slice 41 k41) w A0 ss.length ss) :
    Calls Try.prog 9 #[.slice A0 ss.length c0, .int .i64 fr, .int .i64 tn] w fun e w' => e = .returned (.bool true) ∧ Below w.heap.size w w' := by
  have HW := Aside0.mk (Below.refl w.heap.size w)
  have HS := Aside0.mk hr
  clear hr
  go_enter Try.func9, Try.ntmps9
  go_wp2_with (first | (go_at_call 36; refine stop_ ?_) | (go_at_call 37; refine stop_ ?_) | (go_at_call 38; refine stop_ ?_) | (go_at_call 39; refine stop_ ?_) | (go_at_call 40; refine stop_ ?_) | (go_at_call 20; refine stop_ ?_))
  refine ⟨?_⟩
  refine Calls.mono (new_calls none 0 [] _ (C_none _) (Nat.le_refl _)) ?_
  rintro e w1 ⟨-, hok, hb⟩
  obtain ⟨g, rfl, hgl, hCh⟩ := hok sorted_nil
  replace HW := Aside0.mk (below_step (below_step HW.out (by repeat (first | exact Below.refl _ _ | refine below_alloc ?_ _ | refine pw_below_drewN ?_ _ | refine below_drew1 ?_))) hb)
  have HCH := Aside0.mk hCh
  clear hok hb hCh
  have HNE := Aside0.mk (chn_ne HCH.out)
  go_wp2_with (first | (go_at_call 36; refine stop_ ?_) | (go_at_call 37; refine stop_ ?_) | (go_at_call 38; refine stop_ ?_) | (go_at_call 39; refine stop_ ?_) | (go_at_call 40; refine stop_ ?_) | (go_at_call 20; refine stop_ ?_))
  refine ⟨?_⟩
  refine Calls.mono (push_ok g w.heap.size [] [xabc] [] (some ⟨w1.heap.size + 1, 0, none⟩) 1 [xabc] none 0 [] _ (Chn.below HCH.out (by repeat (first | exact Below.refl _ _ | refine below_alloc ?_ _ | refine pw_below_drewN ?_ _ | refine below_drew1 ?_))) (row_two w1 _) (Nat.le_refl _) (C_none _) (Nat.le_refl _) (by decide) (gok_nil _) (by decide) hap_x (by decide) (by decide) (below_step HW.out (by repeat (first | exact Below.refl _ _ | refine below_alloc ?_ _ | refine pw_below_drewN ?_ _ | refine below_drew1 ?_))).size) ?_
  rintro e w2 ⟨rfl, hCh, hb, hfr⟩
  have HX : Aside0 (w2.heap[w1.heap.size]? = some (.cells #[.int .i64 1, .string ⟨#[97]⟩, .string ⟨#[]⟩, .int .i64 1, .string ⟨#[98]⟩, .string ⟨#[]⟩, .int .i64 1, .string ⟨#[99]⟩, .string ⟨#[]⟩] 41 (0, 0))) := ⟨hfr _ _ _ (blk_alloc (blk_new w1 _) _) (fun e => Nat.lt_irrefl _ (e ▸ HNE.out.1)) (fun v1 v2 h => HNE.out.2 v1 v2 (by rw [Below.heap_alloc _ _ _ (by rw [alloc_size1]; exact Nat.lt_succ_of_lt HNE.out.1), Below.heap_alloc _ _ _ HNE.out.1] at h; exact h))⟩
  replace HW := Aside0.mk ((below_step HW.out (by repeat (first | exact Below.refl _ _ | refine below_alloc ?_ _ | refine pw_below_drewN ?_ _ | refine below_drew1 ?_))).trans hb)
  replace HCH : Aside0 (Chn w2 g w.heap.size [] [xlay]) := ⟨hCh⟩
  clear hb hCh hfr HNE
  go_wp2_with (first | (go_at_call 36; refine stop_ ?_) | (go_at_call 37; refine stop_ ?_) | (go_at_call 38; refine stop_ ?_) | (go_at_call 39; refine stop_ ?_) | (go_at_call 40; refine stop_ ?_) | (go_at_call 20; refine stop_ ?_))
  refine ⟨?_⟩
  refine Calls.mono (len_calls g w.heap.size [] [xlay] _ (Chn.below HCH.out (by repeat (first | exact Below.refl _ _ | refine below_alloc ?_ _ | refine pw_below_drewN ?_ _ | refine below_drew1 ?_)))) ?_
  rintro e w3 ⟨he, hb⟩
  have he : e = .returned (.int .i64 1) := he
  subst he
  replace HW := Aside0.mk (below_step (below_step HW.out (by repeat (first | exact Below.refl _ _ | refine below_alloc ?_ _ | refine pw_below_drewN ?_ _ | refine below_drew1 ?_))) hb)
  replace HCH := Aside0.mk (Chn.below (Chn.below HCH.out (by repeat (first | exact Below.refl _ _ | refine below_alloc ?_ _ | refine pw_below_drewN ?_ _ | refine below_drew1 ?_))) hb)
  replace HX := Aside0.mk (blk_below HX.out hb)
  clear hb
  go_wp2_with (first | (go_at_call 36; refine stop_ ?_) | (go_at_call 37; refine stop_ ?_) | (go_at_call 38; refine stop_ ?_) | (go_at_call 39; refine stop_ ?_) | (go_at_call 40; refine stop_ ?_) | (go_at_call 20; refine stop_ ?_))
  refine ⟨?_⟩
  refine Calls.mono (Graph_ok g w.heap.size [] [xlay] 1 _ (Chn.below HCH.out (by repeat (first | exact Below.refl _ _ | refine below_alloc ?_ _ | refine pw_below_drewN ?_ _ | refine below_drew1 ?_))) (Nat.le_refl _) (by decide) gok_x (by decide)) ?_
  rintro e w4 ⟨v, rfl, hv, hb⟩
  rw [graph_x] at hv
  obtain ⟨Ag, cg, rfl, hCg, hlg⟩ := R_row hv
  replace HW := Aside0.mk (below_step (below_step HW.out (by repeat (first | exact Below.refl _ _ | refine below_alloc ?_ _ | refine pw_below_drewN ?_ _ | refine below_drew1 ?_))) hb)
  replace HX := Aside0.mk (blk_below HX.out hb)
  clear hb HCH hlg hv
  obtain ⟨ad, e0, u0, u1, u2, u3, u4, u5, u6, u7, u8⟩ := one_cells hCg
  subst e0
  clear hCg
  have z0 : w4.cell? ad = some (.int .i64 1) := u0
  have z1 : w4.cell? ⟨ad.block, ad.off + 1, none⟩ = some (.string ⟨#[97]⟩) := u1
  have z2 : w4.cell? ⟨ad.block, ad.off + 2, none⟩ = some (.string ⟨#[]⟩) := u2
  have z3 : w4.cell? ⟨ad.block, ad.off + 3, none⟩ = some (.int .i64 1) := u3
  have z4 : w4.cell? ⟨ad.block, ad.off + 4, none⟩ = some (.string ⟨#[98]⟩) := u4
  have z5 : w4.cell? ⟨ad.block, ad.off + 5, none⟩ = some (.string ⟨#[]⟩) := u5
  have z6 : w4.cell? ⟨ad.block, ad.off + 6, none⟩ = some (.int .i64 1) := u6
  have z7 : w4.cell? ⟨ad.block, ad.off + 7, none⟩ = some (.string ⟨#[99]⟩) := u7
  have z8 : w4.cell? ⟨ad.block, ad.off + 8, none⟩ = some (.string ⟨#[]⟩) := u8
  clear u0 u1 u2 u3 u4 u5 u6 u7 u8
  have x0 := (blk_cell HX.out 0).trans (show _ = some (.int .i64 1) from rfl)
  have x1 := (blk_cell HX.out 1).trans (show _ = some (.string ⟨#[97]⟩) from rfl)
  have x2 := (blk_cell HX.out 2).trans (show _ = some (.string ⟨#[]⟩) from rfl)
  have x3 := (blk_cell HX.out 3).trans (show _ = some (.int .i64 1) from rfl)
  have x4 := (blk_cell HX.out 4).trans (show _ = some (.string ⟨#[98]⟩) from rfl)
  have x5 := (blk_cell HX.out 5).trans (show _ = some (.string ⟨#[]⟩) from rfl)
  have x6 := (blk_cell HX.out 6).trans (show _ = some (.int .i64 1) from rfl)
  have x7 := (blk_cell HX.out 7).trans (show _ = some (.string ⟨#[99]⟩) from rfl)
  have x8 := (blk_cell HX.out 8).trans (show _ = some (.string ⟨#[]⟩) from rfl)
  have hxx : eqE (⟨⟨1, ⟨#[97]⟩, ⟨#[]⟩⟩, ⟨1, ⟨#[98]⟩, ⟨#[]⟩⟩, ⟨1, ⟨#[99]⟩, ⟨#[]⟩⟩⟩ : S41) (⟨⟨1, ⟨#[97]⟩, ⟨#[]⟩⟩, ⟨1, ⟨#[98]⟩, ⟨#[]⟩⟩, ⟨1, ⟨#[99]⟩, ⟨#[]⟩⟩⟩ : S41) = true := (eqE_decide xabc xabc).trans (decide_eq_true rfl)
  by_cases hs1 : (ss.length : Int) < 1
  · 
    go_wp2_with (first | (go_at_call 36; refine stop_ ?_) | (go_at_call 37; refine stop_ ?_) | (go_at_call 38; refine stop_ ?_) | (go_at_call 39; refine stop_ ?_) | (go_at_call 40; refine stop_ ?_) | (go_at_call 20; refine stop_ ?_))
    repeat (go_quiet (fail); try (go_wp2_with (first | (go_at_call 36; refine stop_ ?_) | (go_at_call 37; refine stop_ ?_) | (go_at_call 38; refine stop_ ?_) | (go_at_call 39; refine stop_ ?_) | (go_at_call 40; refine stop_ ?_) | (go_at_call 20; refine stop_ ?_))))
    clear z0 z1 z2 z3 z4 z5 z6 z7 z8 x0 x1 x2 x3 x4 x5 x6 x7 x8 hxx HX
    go_ret
    exact ⟨by first | rfl | (simp; done) | (simp [*]; done) | (simp; omega), below_step HW.out (by repeat (first | exact Below.refl _ _ | refine below_alloc ?_ _ | refine pw_below_drewN ?_ _ | refine below_drew1 ?_))⟩
  by_cases hs2 : (20 : Int) < (ss.length : Int)
  · 
    go_wp2_with (first | (go_at_call 36; refine stop_ ?_) | (go_at_call 37; refine stop_ ?_) | (go_at_call 38; refine stop_ ?_) | (go_at_call 39; refine stop_ ?_) | (go_at_call 40; refine stop_ ?_) | (go_at_call 20; refine stop_ ?_))
    repeat (go_quiet (fail); try (go_wp2_with (first | (go_at_call 36; refine stop_ ?_) | (go_at_call 37; refine stop_ ?_) | (go_at_call 38; refine stop_ ?_) | (go_at_call 39; refine stop_ ?_) | (go_at_call 40; refine stop_ ?_) | (go_at_call 20; refine stop_ ?_))))
    clear z0 z1 z2 z3 z4 z5 z6 z7 z8 x0 x1 x2 x3 x4 x5 x6 x7 x8 hxx HX
    go_ret
    exact ⟨by first | rfl | (simp; done) | (simp [*]; done) | (simp; omega), below_step HW.out (by repeat (first | exact Below.refl _ _ | refine below_alloc ?_ _ | refine pw_below_drewN ?_ _ | refine below_drew1 ?_))⟩
  obtain ⟨N, hN⟩ : ∃ N, ss.length = N + 1 := ⟨ss.length - 1, by omega⟩
  have HN := Aside0.mk hN; have HN20 : Aside0 (N < 20) := ⟨by omega⟩; clear hN
  obtain ⟨ad0, A1, c1, eA, y0, hc1, hC1⟩ := at_set (Kd.C_below HS.out HW.out) 0 (by have := HN.out; omega)
  subst eA
  have y0' : w4.cell? ad0 = some (.slice A1 (ss.getD 0 []).length c1) := (congrArg w4.cell? (show ad0 = ad0.add 0 by simp [Addr.add])).trans y0
  have HC1 := Aside0.mk hC1; have HL1 := Aside0.mk hc1; clear hC1 hc1
  generalize hS0 : ss.getD 0 [] = s0 at *
  have HS0 := Aside0.mk hS0; clear hS0
  go_wp2_with (first | (go_at_call 36; refine stop_ ?_) | (go_at_call 37; refine stop_ ?_) | (go_at_call 38; refine stop_ ?_) | (go_at_call 39; refine stop_ ?_) | (go_at_call 40; refine stop_ ?_) | (go_at_call 20; refine stop_ ?_))
  repeat (go_quiet (fail); try (go_wp2_with (first | (go_at_call 36; refine stop_ ?_) | (go_at_call 37; refine stop_ ?_) | (go_at_call 38; refine stop_ ?_) | (go_at_call 39; refine stop_ ?_) | (go_at_call 40; refine stop_ ?_) | (go_at_call 20; refine stop_ ?_))))
  clear z0 z1 z2 z3 z4 z5 z6 z7 z8 x0 x1 x2 x3 x4 x5 x6 x7 x8 hxx HX
  clear y0 y0'
  refine ⟨?_⟩
  refine Calls.mono (new_calls A1 c1 s0 _ (Kd.C_below HC1.out (by repeat (first | exact Below.refl _ _ | refine below_alloc ?_ _ | refine pw_below_drewN ?_ _ | refine below_drew1 ?_))) HL1.out) ?_
  rintro e w5 ⟨herr, hok, hb⟩
  cases hso : sortedR s0 with
  | some n =>
    obtain rfl := herr n hso
    replace HW := Aside0.mk (below_step (below_step HW.out (by repeat (first | exact Below.refl _ _ | refine below_alloc ?_ _ | refine pw_below_drewN ?_ _ | refine below_drew1 ?_))) hb)
    clear herr hok hb hso
    go_wp2_with (first | (go_at_call 36; refine stop_ ?_) | (go_at_call 37; refine stop_ ?_) | (go_at_call 38; refine stop_ ?_) | (go_at_call 39; refine stop_ ?_) | (go_at_call 40; refine stop_ ?_) | (go_at_call 20; refine stop_ ?_))
    go_ret
    exact ⟨by first | rfl | (simp; done) | (simp [*]; done) | (simp; omega), below_step HW.out (by repeat (first | exact Below.refl _ _ | refine below_alloc ?_ _ | refine pw_below_drewN ?_ _ | refine below_drew1 ?_))⟩
  | none =>
    obtain ⟨g2, rfl, hgl, hCh⟩ := hok hso
    have HCH := Aside0.mk (Chn.lower hCh (below_step HW.out (by repeat (first | exact Below.refl _ _ | refine below_alloc ?_ _ | refine pw_below_drewN ?_ _ | refine below_drew1 ?_))).size)
    replace HW := Aside0.mk (below_step (below_step HW.out (by repeat (first | exact Below.refl _ _ | refine below_alloc ?_ _ | refine pw_below_drewN ?_ _ | refine below_drew1 ?_))) hb)
    have HA0 := Aside0.mk (all_zero HS0.out hso)
    have H200 : Aside0 (s0.length ≤ 200) := ⟨sortedR_len hso⟩
    clear herr hok hb hCh hso hgl HC1 HL1
    go_wp2_with (fail)
    go_loopg [14, 15, 16] N (fun gg s14 _ _ wr => ∃ i : Nat, i ≤ N ∧ N - i ≤ gg ∧ s14 = .int .i64 ((i : Int) + 1) ∧ Aside0 (Below w.heap.size w wr) ∧ Aside0 (Chn wr g2 w.heap.size s0 (laysN ss i)) ∧ Aside0 (AllS ss i))
    case atStart => exact ⟨0, Nat.zero_le _, by omega, rfl, HW, HCH, HA0⟩
    case round =>
      obtain ⟨i, hi, hgi, rfl, HB, HC, HA⟩ := hrel
      clear HW HCH HA0
      by_cases hlt : i < N
      · 
        have hi1 : i + 1 < ss.length := by have := HN.out; omega
        have hlz : (i : Int) + 1 < (ss.length : Int) := by omega
        obtain ⟨ad, Aa, ca, e0, z0, la0, Ca⟩ := at_set (Kd.C_below HS.out HB.out) i (by omega)
        obtain ⟨ad', Ab, cb, e1, z1, lb0, Cb⟩ := at_set (Kd.C_below HS.out HB.out) (i + 1) hi1
        injection e0 with e0; injection e1 with e1; subst e0; subst e1
        have HZ0 := Aside0.mk z0; have HZ1 := Aside0.mk z1; have HCa := Aside0.mk Ca; have HCb := Aside0.mk Cb; have HLa := Aside0.mk la0; have HLb := Aside0.mk lb0; have hsa := HA.out i (Nat.le_refl _)
        have hiw : IntKind.i64.wrap (i : Int) = (i : Int) := i64_wrap_id _ (by omega) (by have := HN20.out; omega)
        have HI1 := Aside0.mk hi1; have HIW := Aside0.mk hiw; have HLT := Aside0.mk hlt
        clear z0 z1 Ca Cb la0 lb0 hi1 hiw hgl
        cases hsb : sortedR (ss.getD (i + 1) []) with
        | some n =>
          have HE : Aside0 (betwR (ss.getD i []) (ss.getD (i + 1) []) = (([], []), some n)) := ⟨by unfold betwR right2; rw [hsa, hsb]⟩
          clear hsa hsb
          go_wp2_with (fail)
          refine betws_region _ w.heap.size wr ad0 c0 ss.length i Aa ca (ss.getD i []) Ab cb (ss.getD (i + 1) []) (.iface 23 (.int .i64 n)) [] [] _ rfl rfl rfl HIW.out HI1.out (fun W' h1 h2 => between_err HE.out Aa ca Ab cb W' h1 HLa.out h2 HLb.out) ⟨below_drew1 (Below.refl _ _), HB.out.size, HZ0.out, HZ1.out, HCa.out, HCb.out⟩ ?_
          intro x w9 b v1 v2 hb x13 hWb hbk hv1 hv2 x15
          obtain ⟨B1, d1, rfl, hD1, hl1⟩ := R_row hv1; obtain ⟨B2, d2, rfl, hD2, hl2⟩ := R_row hv2
          have HL := Aside0.mk hb; clear hb hv1 hv2
          simp only [betwsOps, putAll, x13, x15]
          clear hD1 hD2 hl1 hl2 hbk
          go_wp2_with (first | (go_at_call 36; refine stop_ ?_) | (go_at_call 37; refine stop_ ?_) | (go_at_call 38; refine stop_ ?_) | (go_at_call 39; refine stop_ ?_) | (go_at_call 40; refine stop_ ?_) | (go_at_call 20; refine stop_ ?_))
          go_ret
          exact ⟨rfl, below_step HB.out HL.out⟩
        | none =>
          have HE := Aside0.mk (betw_ok hsa hsb)
          have HA1 := Aside0.mk (all_succ HA.out hsb)
          clear hsa hsb
          have hap := apply_lay HA1.out; rw [HS0.out] at hap
          have hlen := ly_len HA1.out
          have hsu := laysN_succ ss i
          have hgok := gok_lays HA.out; rw [HS0.out] at hgok
          unfold ly betwL at hap hlen hsu
          have HAP := Aside0.mk hap; have HLE := Aside0.mk hlen; have HSU := Aside0.mk hsu; have HGK := Aside0.mk hgok; clear hap hlen hsu hgok
          generalize ss.getD (i + 1) [] = sb at *; generalize ss.getD i [] = sa at *
          go_wp2_with (fail)
          refine betws_region _ w.heap.size wr ad0 c0 ss.length i Aa ca sa Ab cb sb .nilIface (partR sb sa false) (partR sa sb false) _ rfl rfl rfl HIW.out HI1.out (fun W' h1 h2 => between_ok HE.out Aa ca Ab cb W' h1 HLa.out h2 HLb.out) ⟨below_drew1 (Below.refl _ _), HB.out.size, HZ0.out, HZ1.out, HCa.out, HCb.out⟩ ?_
          intro x w9 b v1 v2 hb x13 hWb hbk hv1 hv2 x15
          obtain ⟨B1, d1, rfl, hD1, hl1⟩ := R_row hv1; obtain ⟨B2, d2, rfl, hD2, hl2⟩ := R_row hv2
          have HL := Aside0.mk hb; clear hb hv1 hv2
          simp only [betwsOps, putAll, x13, x15]
          have k0 := (blk_cell hbk 0).trans (show _ = some (Value.slice B1 _ d1) from rfl); have k1 := (blk_cell hbk 1).trans (show _ = some (Value.slice B2 _ d2) from rfl)
          have HD1 := Aside0.mk hD1; have HD2 := Aside0.mk hD2; have HM1 := Aside0.mk hl1; have HM2 := Aside0.mk hl2
          clear hbk hD1 hD2 hl1 hl2
          go_wp2_with (first | (go_at_call 36; refine stop_ ?_) | (go_at_call 37; refine stop_ ?_) | (go_at_call 38; refine stop_ ?_) | (go_at_call 39; refine stop_ ?_) | (go_at_call 40; refine stop_ ?_) | (go_at_call 20; refine stop_ ?_))
          clear k0 k1
          refine ⟨?_⟩
          refine Calls.mono (push_ok g2 w.heap.size s0 _ (laysN ss i) B1 d1 _ B2 d2 _ _ (Chn.below (Chn.below HC.out HL.out) (by repeat (first | exact Below.refl _ _ | refine below_alloc ?_ _ | refine pw_below_drewN ?_ _ | refine below_drew1 ?_))) (Kd.C_below HD1.out (by repeat (first | exact Below.refl _ _ | refine below_alloc ?_ _ | refine pw_below_drewN ?_ _ | refine below_drew1 ?_))) HM1.out (Kd.C_below HD2.out (by repeat (first | exact Below.refl _ _ | refine below_alloc ?_ _ | refine pw_below_drewN ?_ _ | refine below_drew1 ?_))) HM2.out H200.out HGK.out (by rw [laysN_length]; have := HN20.out; omega) HAP.out HLE.out.1 HLE.out.2 (Nat.le_trans HB.out.size (below_step HL.out (by repeat (first | exact Below.refl _ _ | refine below_alloc ?_ _ | refine pw_below_drewN ?_ _ | refine below_drew1 ?_))).size)) ?_
          rintro e w8 ⟨rfl, hCh, hb, -⟩
          have HBn := Aside0.mk ((below_step (below_step HB.out HL.out) (by repeat (first | exact Below.refl _ _ | refine below_alloc ?_ _ | refine pw_below_drewN ?_ _ | refine below_drew1 ?_))).trans hb); have HCn : Aside0 (Chn w8 g2 w.heap.size s0 (laysN ss (i + 1))) := ⟨by rw [HSU.out]; exact hCh⟩
          clear hb hCh
          go_wp2_with (first | (go_at_call 36; refine stop_ ?_) | (go_at_call 37; refine stop_ ?_) | (go_at_call 38; refine stop_ ?_) | (go_at_call 39; refine stop_ ?_) | (go_at_call 40; refine stop_ ?_) | (go_at_call 20; refine stop_ ?_))
          go_roundg (N - (i + 1))
          case measure => have := HLT.out; omega
          case rel => exact ⟨i + 1, HLT.out, by omega, by go_num, HBn, HCn, HA1⟩
      · 
        obtain rfl : i = N := by omega
        have hlz : ¬ (i : Int) + 1 < (ss.length : Int) := by have := HN.out; omega
        have hlz2 : (ss.length : Int) = (i : Int) + 1 := by have := HN.out; omega
        clear hgi hi hlt
        have hgr := graph_lays HA.out; have hgok := gok_lays HA.out; rw [HS0.out] at hgr hgok
        have HGR := Aside0.mk hgr; have HGK := Aside0.mk hgok; clear hgr hgok hlz2
        go_wp2_with (fail)
        clear hlz
        go_loopg [17, 18, 19, 20] ss.length (fun gg s17 _ _ _ wq => ∃ j : Nat, j ≤ ss.length ∧ ss.length - j ≤ gg ∧ s17 = .int .i64 (j : Int) ∧ Aside0 (Below w.heap.size w wq) ∧ Aside0 (Chn wq g2 w.heap.size s0 (laysN ss i)))
        case atStart => exact ⟨0, Nat.zero_le _, by omega, rfl, HB, HC⟩
        case round =>
          obtain ⟨j, hj, hgj, rfl, HB2, HC2⟩ := hrel
          clear HB HC
          by_cases hlt : j < ss.length
          · 
            have hlz : (j : Int) < (ss.length : Int) := by omega
            have HLT := Aside0.mk hlt
            obtain ⟨ad, Aa, ca, e0, z0, la0, Ca⟩ := at_set (Kd.C_below HS.out HB2.out) j hlt
            injection e0 with e0; subst e0
            have HCa := Aside0.mk Ca; have HZ0 := Aside0.mk z0; clear Ca la0 z0
            generalize hSj : ss.getD j [] = sj at HCa HZ0
            have HSJ := Aside0.mk hSj; clear hSj
            go_wp2_with (first | (go_at_call 36; refine stop_ ?_) | (go_at_call 37; refine stop_ ?_) | (go_at_call 38; refine stop_ ?_) | (go_at_call 39; refine stop_ ?_) | (go_at_call 40; refine stop_ ?_) | (go_at_call 20; refine stop_ ?_))
            refine ⟨?_⟩
            refine Calls.mono (Graph_ok g2 w.heap.size s0 (laysN ss i) j _ (Chn.below HC2.out (by repeat (first | exact Below.refl _ _ | refine below_alloc ?_ _ | refine pw_below_drewN ?_ _ | refine below_drew1 ?_))) (by rw [laysN_length]; have := HLT.out; have := HN.out; omega) H200.out HGK.out (by rw [laysN_length]; have := HN20.out; omega)) ?_
            rintro e w8 ⟨v, rfl, hv, hb⟩
            rw [laysN_take ss i j (by have := HLT.out; have := HN.out; omega), HGR.out j (by have := HLT.out; have := HN.out; omega), HSJ.out] at hv
            obtain ⟨Ag, cg, rfl, hCg, -⟩ := R_row hv
            have HBn := Aside0.mk (below_step (below_step HB2.out (by repeat (first | exact Below.refl _ _ | refine below_alloc ?_ _ | refine pw_below_drewN ?_ _ | refine below_drew1 ?_))) hb); have HCn := Aside0.mk (Chn.below (Chn.below HC2.out (by repeat (first | exact Below.refl _ _ | refine below_alloc ?_ _ | refine pw_below_drewN ?_ _ | refine below_drew1 ?_))) hb); have HCg := Aside0.mk hCg; have z0 := ((below_step (by repeat (first | exact Below.refl _ _ | refine below_alloc ?_ _ | refine pw_below_drewN ?_ _ | refine below_drew1 ?_)) hb).cell (World.block_lt_of_cell? _ _ HZ0.out)).trans HZ0.out
            replace HCa := Aside0.mk (Kd.C_below (Kd.C_below HCa.out (by repeat (first | exact Below.refl _ _ | refine below_alloc ?_ _ | refine pw_below_drewN ?_ _ | refine below_drew1 ?_))) hb)
            clear hb hCg hv
            go_wp2_with (first | (go_at_call 36; refine stop_ ?_) | (go_at_call 37; refine stop_ ?_) | (go_at_call 38; refine stop_ ?_) | (go_at_call 39; refine stop_ ?_) | (go_at_call 40; refine stop_ ?_) | (go_at_call 20; refine stop_ ?_))
            refine ⟨?_⟩
            refine Calls.mono (same_true rfl Ag Aa cg ca _ (Kd.C_below HCg.out (by repeat (first | exact Below.refl _ _ | refine below_alloc ?_ _ | refine pw_below_drewN ?_ _ | refine below_drew1 ?_))) (Kd.C_below HCa.out (by repeat (first | exact Below.refl _ _ | refine below_alloc ?_ _ | refine pw_below_drewN ?_ _ | refine below_drew1 ?_)))) ?_
            rintro e w7 ⟨rfl, hb⟩
            replace HCn := Aside0.mk (Chn.below (Chn.below HCn.out (by repeat (first | exact Below.refl _ _ | refine below_alloc ?_ _ | refine pw_below_drewN ?_ _ | refine below_drew1 ?_))) hb); replace HBn := Aside0.mk (below_step (below_step HBn.out (by repeat (first | exact Below.refl _ _ | refine below_alloc ?_ _ | refine pw_below_drewN ?_ _ | refine below_drew1 ?_))) hb)
            clear hb z0
            go_wp2_with (first | (go_at_call 36; refine stop_ ?_) | (go_at_call 37; refine stop_ ?_) | (go_at_call 38; refine stop_ ?_) | (go_at_call 39; refine stop_ ?_) | (go_at_call 40; refine stop_ ?_) | (go_at_call 20; refine stop_ ?_))
            go_roundg (ss.length - (j + 1))
            case measure => have := HLT.out; omega
            case rel => exact ⟨j + 1, HLT.out, by omega, by go_num, HBn, HCn⟩
          · 
            obtain rfl : j = ss.length := by omega
            have hlz : ¬ (ss.length : Int) < (ss.length : Int) := by omega
            clear hgj hj hlt
            have HW := HB2; have HCH := HC2; clear HB2 HC2
            have hwl : IntKind.i64.wrap ((ss.length : Int) - 1) = (i : Int) := by rw [show (ss.length : Int) - 1 = (i : Int) by have := HN.out; omega]; exact i64_wrap_id _ (by omega) (by have := HN20.out; omega)
            have HWL := Aside0.mk hwl; clear hwl
            by_cases hbad : fr < 1 ∨ (i : Int) < tn ∨ tn < fr
            · 
              go_wp2_with (first | (go_at_call 36; refine stop_ ?_) | (go_at_call 37; refine stop_ ?_) | (go_at_call 38; refine stop_ ?_) | (go_at_call 39; refine stop_ ?_) | (go_at_call 40; refine stop_ ?_) | (go_at_call 20; refine stop_ ?_))
              refine ⟨?_⟩
              refine Calls.mono (squash_range g2 w.heap.size fr tn s0 (laysN ss i) _ (Chn.below HCH.out (by repeat (first | exact Below.refl _ _ | refine below_alloc ?_ _ | refine pw_below_drewN ?_ _ | refine below_drew1 ?_))) (by rw [laysN_length]; exact hbad)) ?_
              rintro e w6 ⟨⟨n, rfl⟩, hb⟩
              replace HW := Aside0.mk (below_step (below_step HW.out (by repeat (first | exact Below.refl _ _ | refine below_alloc ?_ _ | refine pw_below_drewN ?_ _ | refine below_drew1 ?_))) hb)
              clear hb HCH hlz
              have hwl := HWL.out
              by_cases q1 : fr < 1
              · 
                clear hbad
                go_wp2_with (first | (go_at_call 36; refine stop_ ?_) | (go_at_call 37; refine stop_ ?_) | (go_at_call 38; refine stop_ ?_) | (go_at_call 39; refine stop_ ?_) | (go_at_call 40; refine stop_ ?_) | (go_at_call 20; refine stop_ ?_))
                go_ret
                exact ⟨by first | rfl | (simp; done) | (simp [*]; done) | (simp; omega), below_step HW.out (by repeat (first | exact Below.refl _ _ | refine below_alloc ?_ _ | refine pw_below_drewN ?_ _ | refine below_drew1 ?_))⟩
              by_cases q2 : (i : Int) < tn
              · 
                clear hbad
                go_wp2_with (first | (go_at_call 36; refine stop_ ?_) | (go_at_call 37; refine stop_ ?_) | (go_at_call 38; refine stop_ ?_) | (go_at_call 39; refine stop_ ?_) | (go_at_call 40; refine stop_ ?_) | (go_at_call 20; refine stop_ ?_))
                go_ret
                exact ⟨by first | rfl | (simp; done) | (simp [*]; done) | (simp; omega), below_step HW.out (by repeat (first | exact Below.refl _ _ | refine below_alloc ?_ _ | refine pw_below_drewN ?_ _ | refine below_drew1 ?_))⟩
              have q3 : tn < fr := by omega
              clear hbad
              go_wp2_with (first | (go_at_call 36; refine stop_ ?_) | (go_at_call 37; refine stop_ ?_) | (go_at_call 38; refine stop_ ?_) | (go_at_call 39; refine stop_ ?_) | (go_at_call 40; refine stop_ ?_) | (go_at_call 20; refine stop_ ?_))
              go_ret
              exact ⟨by first | rfl | (simp; done) | (simp [*]; done) | (simp; omega), below_step HW.out (by repeat (first | exact Below.refl _ _ | refine below_alloc ?_ _ | refine pw_below_drewN ?_ _ | refine below_drew1 ?_))⟩
            obtain ⟨f, rfl⟩ : ∃ f : Nat, fr = (f : Int) + 1 := ⟨(fr - 1).toNat, by omega⟩
            obtain ⟨t, rfl⟩ : ∃ t : Nat, tn = (t : Int) := ⟨tn.toNat, by omega⟩
            have hft : f + 1 ≤ t := by omega
            have hti : t ≤ i := by omega
            have HFT := Aside0.mk hft; have HTI := Aside0.mk hti; clear hbad
            have hwo := lays_without (n := i) HN.out hft hti; have hal := without_all HA.out HN.out hft hti; have hlow := without_low ss f t; have hhigh := without_high ss f t
            have h0 : (without ss f t).getD 0 [] = s0 := (hlow 0 (by have := HN.out; omega) (Nat.zero_le _)).trans HS0.out
            have hgr := graph_lays hal; have hgok := gok_lays hal; rw [h0] at hgr hgok
            clear h0
            obtain ⟨m, hm⟩ : ∃ m, t = f + 1 + m := ⟨t - (f + 1), by omega⟩
            obtain ⟨q, hq⟩ : ∃ q, q = f + 1 + (i - t) := ⟨_, rfl⟩
            rw [← hq] at hwo hgr hgok hal
            have HLOW := Aside0.mk hlow; have HHI := Aside0.mk hhigh; have HGR3 := Aside0.mk hgr; have HGK3 := Aside0.mk hgok; have HWO := Aside0.mk hwo; have HM := Aside0.mk hm; have HQ := Aside0.mk hq; clear hlow hhigh hgr hgok hwo hal hm hq
            have hw1 : IntKind.i64.wrap ((t : Int) - ((f : Int) + 1)) = (m : Int) := by rw [show (t : Int) - ((f : Int) + 1) = (m : Int) by have := HM.out; omega]; exact i64_wrap_id _ (by omega) (by have := HN20.out; have := HM.out; omega)
            have hw2 : IntKind.i64.wrap ((i : Int) - (m : Int)) = (q : Int) := by rw [show (i : Int) - (m : Int) = (q : Int) by have := HM.out; have := HQ.out; omega]; exact i64_wrap_id _ (by omega) (by have := HN20.out; have := HQ.out; omega)
            have HW1 := Aside0.mk hw1; have HW2 := Aside0.mk hw2; clear hw1 hw2 hft hti
            go_wp2_with (first | (go_at_call 36; refine stop_ ?_) | (go_at_call 37; refine stop_ ?_) | (go_at_call 38; refine stop_ ?_) | (go_at_call 39; refine stop_ ?_) | (go_at_call 40; refine stop_ ?_) | (go_at_call 20; refine stop_ ?_))
            refine ⟨?_⟩
            refine Calls.mono (squash_ok g2 w.heap.size f t s0 (laysN ss i) (oneN ss f) _ (Chn.below HCH.out (by repeat (first | exact Below.refl _ _ | refine below_alloc ?_ _ | refine pw_below_drewN ?_ _ | refine below_drew1 ?_))) HFT.out (by rw [laysN_length]; exact HTI.out) (by rw [laysN_length]; have := HN20.out; omega) (one_ok HA.out HTI.out) (one_len HA.out HTI.out) (below_step HW.out (by repeat (first | exact Below.refl _ _ | refine below_alloc ?_ _ | refine pw_below_drewN ?_ _ | refine below_drew1 ?_))).size) ?_
            rintro e w6 ⟨rfl, hCh, hb⟩
            rw [HWO.out] at hCh
            replace HW := Aside0.mk ((below_step HW.out (by repeat (first | exact Below.refl _ _ | refine below_alloc ?_ _ | refine pw_below_drewN ?_ _ | refine below_drew1 ?_))).trans hb)
            replace HCH := Aside0.mk hCh
            clear hb hCh hlz
            go_wp2_with (first | (go_at_call 36; refine stop_ ?_) | (go_at_call 37; refine stop_ ?_) | (go_at_call 38; refine stop_ ?_) | (go_at_call 39; refine stop_ ?_) | (go_at_call 40; refine stop_ ?_) | (go_at_call 20; refine stop_ ?_))
            refine ⟨?_⟩
            refine Calls.mono (len_calls g2 w.heap.size s0 (laysN (without ss f t) q) _ (Chn.below HCH.out (by repeat (first | exact Below.refl _ _ | refine below_alloc ?_ _ | refine pw_below_drewN ?_ _ | refine below_drew1 ?_)))) ?_
            rintro e w6a ⟨rfl, hb⟩
            rw [laysN_length]
            replace HW := Aside0.mk (below_step (below_step HW.out (by repeat (first | exact Below.refl _ _ | refine below_alloc ?_ _ | refine pw_below_drewN ?_ _ | refine below_drew1 ?_))) hb)
            replace HCH := Aside0.mk (Chn.below (Chn.below HCH.out (by repeat (first | exact Below.refl _ _ | refine below_alloc ?_ _ | refine pw_below_drewN ?_ _ | refine below_drew1 ?_))) hb)
            clear hb
            have hwl := HWL.out; have hw1 := HW1.out; have hw2 := HW2.out
            go_wp2_with (fail)
            clear hwl hw2
            go_loopg [21, 22, 23, 24, 25] ss.length (fun gg s21 _ _ _ _ wq => ∃ j : Nat, j ≤ ss.length ∧ ss.length - j ≤ gg ∧ s21 = .int .i64 (j : Int) ∧ Aside0 (Below w.heap.size w wq) ∧ Aside0 (Chn wq g2 w.heap.size s0 (laysN (without ss f t) q)))
            case atStart => exact ⟨0, Nat.zero_le _, by omega, rfl, HW, HCH⟩
            case round =>
              obtain ⟨j, hj, hgj, rfl, HB2, HC2⟩ := hrel
              clear HW HCH
              by_cases hlt : j < ss.length
              · 
                have hlz : (j : Int) < (ss.length : Int) := by omega
                have HLT := Aside0.mk hlt
                by_cases hlo : j < f + 1
                · 
                  have hjt : j < t := by have := HFT.out; omega
                  have n1 : ¬ (j : Int) ≥ (f : Int) + 1 := by omega
                  have n1' : ¬ (f : Int) + 1 ≤ (j : Int) := by omega
                  have n2 : ¬ (j : Int) ≥ (t : Int) := by omega
                  have n2' : decide (t ≤ j) = false := decide_eq_false (by omega)
                  have HLO := Aside0.mk hlo
                  obtain ⟨ad, Aa, ca, e0, z0, la0, Ca⟩ := at_set (Kd.C_below HS.out HB2.out) j hlt
                  injection e0 with e0; subst e0
                  have HCa := Aside0.mk Ca; have HZ0 := Aside0.mk z0; clear Ca la0 z0
                  generalize hSj : ss.getD j [] = sj at HCa HZ0
                  have HSJ := Aside0.mk hSj; clear hSj
                  go_wp2_with (first | (go_at_call 36; refine stop_ ?_) | (go_at_call 37; refine stop_ ?_) | (go_at_call 38; refine stop_ ?_) | (go_at_call 39; refine stop_ ?_) | (go_at_call 40; refine stop_ ?_) | (go_at_call 20; refine stop_ ?_))
                  refine ⟨?_⟩
                  refine Calls.mono (Graph_ok g2 w.heap.size s0 (laysN (without ss f t) q) j _ (Chn.below HC2.out (by repeat (first | exact Below.refl _ _ | refine below_alloc ?_ _ | refine pw_below_drewN ?_ _ | refine below_drew1 ?_))) (by rw [laysN_length]; have := HLO.out; have := HQ.out; omega) H200.out HGK3.out (by rw [laysN_length]; have := HN20.out; have := HQ.out; have := HTI.out; have := HFT.out; omega)) ?_
                  rintro e w8 ⟨v, rfl, hv, hb⟩
                  rw [laysN_take _ q j (by have := HLO.out; have := HQ.out; omega), HGR3.out j (by have := HLO.out; have := HQ.out; omega), HLOW.out j (by have := HLO.out; have := HLT.out; have := HTI.out; have := HFT.out; have := HN.out; omega) (by have := HLO.out; omega), HSJ.out] at hv
                  obtain ⟨Ag, cg, rfl, hCg, -⟩ := R_row hv
                  have HBn := Aside0.mk (below_step (below_step HB2.out (by repeat (first | exact Below.refl _ _ | refine below_alloc ?_ _ | refine pw_below_drewN ?_ _ | refine below_drew1 ?_))) hb); have HCn := Aside0.mk (Chn.below (Chn.below HC2.out (by repeat (first | exact Below.refl _ _ | refine below_alloc ?_ _ | refine pw_below_drewN ?_ _ | refine below_drew1 ?_))) hb); have HCg := Aside0.mk hCg; have z0 := ((below_step (by repeat (first | exact Below.refl _ _ | refine below_alloc ?_ _ | refine pw_below_drewN ?_ _ | refine below_drew1 ?_)) hb).cell (World.block_lt_of_cell? _ _ HZ0.out)).trans HZ0.out
                  replace HCa := Aside0.mk (Kd.C_below (Kd.C_below HCa.out (by repeat (first | exact Below.refl _ _ | refine below_alloc ?_ _ | refine pw_below_drewN ?_ _ | refine below_drew1 ?_))) hb)
                  clear hb hCg hv
                  go_wp2_with (first | (go_at_call 36; refine stop_ ?_) | (go_at_call 37; refine stop_ ?_) | (go_at_call 38; refine stop_ ?_) | (go_at_call 39; refine stop_ ?_) | (go_at_call 40; refine stop_ ?_) | (go_at_call 20; refine stop_ ?_))
                  refine ⟨?_⟩
                  refine Calls.mono (same_true rfl Ag Aa cg ca _ (Kd.C_below HCg.out (by repeat (first | exact Below.refl _ _ | refine below_alloc ?_ _ | refine pw_below_drewN ?_ _ | refine below_drew1 ?_))) (Kd.C_below HCa.out (by repeat (first | exact Below.refl _ _ | refine below_alloc ?_ _ | refine pw_below_drewN ?_ _ | refine below_drew1 ?_)))) ?_
                  rintro e w7 ⟨rfl, hb⟩
                  replace HCn := Aside0.mk (Chn.below (Chn.below HCn.out (by repeat (first | exact Below.refl _ _ | refine below_alloc ?_ _ | refine pw_below_drewN ?_ _ | refine below_drew1 ?_))) hb); replace HBn := Aside0.mk (below_step (below_step HBn.out (by repeat (first | exact Below.refl _ _ | refine below_alloc ?_ _ | refine pw_below_drewN ?_ _ | refine below_drew1 ?_))) hb)
                  clear hb z0
                  go_wp2_with (first | (go_at_call 36; refine stop_ ?_) | (go_at_call 37; refine stop_ ?_) | (go_at_call 38; refine stop_ ?_) | (go_at_call 39; refine stop_ ?_) | (go_at_call 40; refine stop_ ?_) | (go_at_call 20; refine stop_ ?_))
                  go_roundg (ss.length - (j + 1))
                  case measure => have := HLT.out; omega
                  case rel => exact ⟨j + 1, HLT.out, by omega, by go_num, HBn, HCn⟩
                by_cases hhi : j < t
                · 
                  have n1 : (j : Int) ≥ (f : Int) + 1 := by omega
                  have n1' : (f : Int) + 1 ≤ (j : Int) := by omega
                  have n2 : (j : Int) < (t : Int) := by omega
                  go_wp2_with (first | (go_at_call 36; refine stop_ ?_) | (go_at_call 37; refine stop_ ?_) | (go_at_call 38; refine stop_ ?_) | (go_at_call 39; refine stop_ ?_) | (go_at_call 40; refine stop_ ?_) | (go_at_call 20; refine stop_ ?_))
                  go_roundg (ss.length - (j + 1))
                  case measure => have := HLT.out; omega
                  case rel => exact ⟨j + 1, HLT.out, by omega, by go_num, HB2, HC2⟩
                obtain ⟨p, hp⟩ : ∃ p, j = p + m := ⟨j - m, by have := HM.out; omega⟩
                obtain ⟨r, hr⟩ : ∃ r, j = t + r := ⟨j - t, by omega⟩
                have HP := Aside0.mk hp; have HR := Aside0.mk hr
                have n1 : (j : Int) ≥ (f : Int) + 1 := by omega
                have n1' : (f : Int) + 1 ≤ (j : Int) := by omega
                have n2 : ¬ (j : Int) < (t : Int) := by omega
                have n3 : (j : Int) ≥ (t : Int) := by omega
                have n3' : (t : Int) ≤ (j : Int) := by omega
                have n4 : decide (t ≤ j) = true := decide_eq_true (by omega)
                have n5 : decide (j < t) = false := decide_eq_false (by omega)
                have hw3 : IntKind.i64.wrap ((j : Int) - (m : Int)) = (p : Int) := by rw [show (j : Int) - (m : Int) = (p : Int) by omega]; exact i64_wrap_id _ (by omega) (by have := HN20.out; have := HN.out; omega)
                clear hp hr
                obtain ⟨ad, Aa, ca, e0, z0, la0, Ca⟩ := at_set (Kd.C_below HS.out HB2.out) j hlt
                injection e0 with e0; subst e0
                have HCa := Aside0.mk Ca; have HZ0 := Aside0.mk z0; clear Ca la0 z0
                generalize hSj : ss.getD j [] = sj at HCa HZ0
                have HSJ := Aside0.mk hSj; clear hSj
                go_wp2_with (first | (go_at_call 36; refine stop_ ?_) | (go_at_call 37; refine stop_ ?_) | (go_at_call 38; refine stop_ ?_) | (go_at_call 39; refine stop_ ?_) | (go_at_call 40; refine stop_ ?_) | (go_at_call 20; refine stop_ ?_))
                refine ⟨?_⟩
                refine Calls.mono (Graph_ok g2 w.heap.size s0 (laysN (without ss f t) q) p _ (Chn.below HC2.out (by repeat (first | exact Below.refl _ _ | refine below_alloc ?_ _ | refine pw_below_drewN ?_ _ | refine below_drew1 ?_))) (by rw [laysN_length]; have := HP.out; have := HLT.out; have := HN.out; have := HQ.out; have := HM.out; have := HTI.out; omega) H200.out HGK3.out (by rw [laysN_length]; have := HN20.out; have := HQ.out; have := HTI.out; have := HFT.out; omega)) ?_
                rintro e w8 ⟨v, rfl, hv, hb⟩
                rw [laysN_take _ q p (by have := HP.out; have := HLT.out; have := HN.out; have := HQ.out; have := HM.out; have := HTI.out; omega), HGR3.out p (by have := HP.out; have := HLT.out; have := HN.out; have := HQ.out; have := HM.out; have := HTI.out; omega), show p = f + 1 + r by (have := HP.out; have := HR.out; have := HM.out; omega), HHI.out r (by have := HTI.out; have := HFT.out; have := HN.out; omega), ← HR.out, HSJ.out] at hv
                obtain ⟨Ag, cg, rfl, hCg, -⟩ := R_row hv
                have HBn := Aside0.mk (below_step (below_step HB2.out (by repeat (first | exact Below.refl _ _ | refine below_alloc ?_ _ | refine pw_below_drewN ?_ _ | refine below_drew1 ?_))) hb); have HCn := Aside0.mk (Chn.below (Chn.below HC2.out (by repeat (first | exact Below.refl _ _ | refine below_alloc ?_ _ | refine pw_below_drewN ?_ _ | refine below_drew1 ?_))) hb); have HCg := Aside0.mk hCg; have z0 := ((below_step (by repeat (first | exact Below.refl _ _ | refine below_alloc ?_ _ | refine pw_below_drewN ?_ _ | refine below_drew1 ?_)) hb).cell (World.block_lt_of_cell? _ _ HZ0.out)).trans HZ0.out
                replace HCa := Aside0.mk (Kd.C_below (Kd.C_below HCa.out (by repeat (first | exact Below.refl _ _ | refine below_alloc ?_ _ | refine pw_below_drewN ?_ _ | refine below_drew1 ?_))) hb)
                clear hb hCg hv
                go_wp2_with (first | (go_at_call 36; refine stop_ ?_) | (go_at_call 37; refine stop_ ?_) | (go_at_call 38; refine stop_ ?_) | (go_at_call 39; refine stop_ ?_) | (go_at_call 40; refine stop_ ?_) | (go_at_call 20; refine stop_ ?_))
                refine ⟨?_⟩
                refine Calls.mono (same_true rfl Ag Aa cg ca _ (Kd.C_below HCg.out (by repeat (first | exact Below.refl _ _ | refine below_alloc ?_ _ | refine pw_below_drewN ?_ _ | refine below_drew1 ?_))) (Kd.C_below HCa.out (by repeat (first | exact Below.refl _ _ | refine below_alloc ?_ _ | refine pw_below_drewN ?_ _ | refine below_drew1 ?_)))) ?_
                rintro e w7 ⟨rfl, hb⟩
                replace HCn := Aside0.mk (Chn.below (Chn.below HCn.out (by repeat (first | exact Below.refl _ _ | refine below_alloc ?_ _ | refine pw_below_drewN ?_ _ | refine below_drew1 ?_))) hb); replace HBn := Aside0.mk (below_step (below_step HBn.out (by repeat (first | exact Below.refl _ _ | refine below_alloc ?_ _ | refine pw_below_drewN ?_ _ | refine below_drew1 ?_))) hb)
                clear hb z0
                go_wp2_with (first | (go_at_call 36; refine stop_ ?_) | (go_at_call 37; refine stop_ ?_) | (go_at_call 38; refine stop_ ?_) | (go_at_call 39; refine stop_ ?_) | (go_at_call 40; refine stop_ ?_) | (go_at_call 20; refine stop_ ?_))
                go_roundg (ss.length - (j + 1))
                case measure => have := HLT.out; omega
                case rel => exact ⟨j + 1, HLT.out, by omega, by go_num, HBn, HCn⟩
              · 
                obtain rfl : j = ss.length := by omega
                have hlz : ¬ (ss.length : Int) < (ss.length : Int) := by omega
                clear hgj hj hlt
                go_wp2_with (first | (go_at_call 36; refine stop_ ?_) | (go_at_call 37; refine stop_ ?_) | (go_at_call 38; refine stop_ ?_) | (go_at_call 39; refine stop_ ?_) | (go_at_call 40; refine stop_ ?_) | (go_at_call 20; refine stop_ ?_))
                go_ret
                exact ⟨rfl, HB2.out⟩
end Go.Proofs.Ytdjamphmndbmjaa.M

/- What a law is handed, in plain words: a term, a triple, a row of triples. -/
namespace Go.Proofs.Ytdjamphmndbmjaa.M
open Go.RowKit Go.Proofs.YtdjamphmndbmjaaW.PrintWords Go.Proofs.YtdjamphmndbmjaaW.PrintLast Go.Proofs.YtdjamphmndbmjaaW.PrintMore
set_option linter.unusedVariables false
set_option linter.unusedSimpArgs false

set_option maxRecDepth 100000
open Go.Deep
section
variable {H : Type} {enc : TypeId × Value → H} {w : World} {base : Nat} {spare : Nat → Bool} {held : Bool}
theorem cells_int : Try.prog.cellsOf 3 = 1 := by kernel_rfl
theorem cells_str : Try.prog.cellsOf 9 = 1 := by kernel_rfl
theorem cells_TM : Try.prog.cellsOf 35 = 3 := by kernel_rfl
theorem cells_TR : Try.prog.cellsOf 41 = 9 := by kernel_rfl
theorem open_TM {fuel : Nat} {cs : List Value} {x : DataW H × List MemPlace} (h : DataW.trod enc Try.prog w base spare held fuel 35 cs = some x) :
    ∃ s : S35, cs = [.int .i64 s.f0, .string s.f1, .string s.f2] := by
  obtain ⟨y0, y1, y2, n, _, hl, h0, h1, h2⟩ := trod_struct3 Try.underlying35 h
  rw [cells_TM] at hl
  match cs, hl with
  | [a, b, c], _ =>
    simp only [cells_int, cells_str] at h0 h1 h2
    obtain ⟨i, e0, _, _⟩ := DataW.trod_int Try.underlying3 h0
    obtain ⟨s1, e1, _, _⟩ := DataW.trod_string Try.underlying9 h1
    obtain ⟨s2, e2, _, _⟩ := DataW.trod_string Try.underlying9 h2
    simp at e0 e1 e2
    exact ⟨⟨i, s1, s2⟩, by rw [e0, e1, e2]⟩
theorem open_TR {fuel : Nat} {cs : List Value} {x : DataW H × List MemPlace} (h : DataW.trod enc Try.prog w base spare held fuel 41 cs = some x) :
    ∃ s : S41, cs = [.int .i64 s.f0.f0, .string s.f0.f1, .string s.f0.f2, .int .i64 s.f1.f0, .string s.f1.f1, .string s.f1.f2, .int .i64 s.f2.f0, .string s.f2.f1, .string s.f2.f2] := by
  obtain ⟨y0, y1, y2, n, _, hl, h0, h1, h2⟩ := trod_struct3 Try.underlying41 h
  rw [cells_TR] at hl
  match cs, hl with
  | [a0, a1, a2, a3, a4, a5, a6, a7, a8], _ =>
    simp only [cells_TM] at h0 h1 h2
    obtain ⟨s0, e0⟩ := open_TM h0
    obtain ⟨s1, e1⟩ := open_TM h1
    obtain ⟨s2, e2⟩ := open_TM h2
    simp at e0 e1 e2
    obtain ⟨rfl, rfl, rfl⟩ := e0
    obtain ⟨rfl, rfl, rfl⟩ := e1
    obtain ⟨rfl, rfl, rfl⟩ := e2
    exact ⟨⟨s0, s1, s2⟩, rfl⟩
theorem open_row {A : Option Addr} {len cap : Nat} {d : DataW H} {ps : List MemPlace} (h : DataW.Trod enc Try.prog w base spare held 26 (.slice A len cap) d ps) :
    ∃ l : List S41, l.length = len ∧ Kd.C k41 w A l.length l ∧ l.length ≤ cap := by
  obtain ⟨fuel, hf⟩ := h
  rcases open_slice Try.underlying26 hf with ⟨hcs, _⟩ | ⟨a, l, c, m, n, D, Pl, hcs, _, hl, hm, hmm, _, hx⟩
  · simp [Value.cells] at hcs
    obtain ⟨rfl, rfl, rfl⟩ := hcs
    exact ⟨[], rfl, ⟨rfl, by simp, fun h => absurd h (Nat.lt_irrefl 0)⟩, Nat.le_refl _⟩
  · simp [Value.cells] at hcs
    obtain ⟨rfl, rfl, rfl⟩ := hcs
    haveI : Inhabited S41 := ⟨z41⟩
    have hlm : len ≤ m := by rw [hmm]; split <;> omega
    rw [cells_TR] at hx
    obtain ⟨V, hV⟩ := choose_lt (α := S41) (n := len) (p := fun i s => ∀ q u, [Value.int .i64 s.f0.f0, .string s.f0.f1, .string s.f0.f2, .int .i64 s.f1.f0, .string s.f1.f1, .string s.f1.f2, .int .i64 s.f2.f0, .string s.f2.f1, .string s.f2.f2][q]? = some u → w.cell? (a.add (i * 9 + q)) = some u) (fun i hi => by
      obtain ⟨cs', h1, h2⟩ := hx i (by omega)
      obtain ⟨s, rfl⟩ := open_TR h2
      obtain ⟨_, hlen, hc⟩ := World.cells?_some h1
      refine ⟨s, fun q u hq => ?_⟩
      have hq9 : q < 9 := by
        rcases Nat.lt_or_ge q 9 with h | h
        · exact h
        · rw [List.getElem?_eq_none (by simpa using h)] at hq; cases hq
      rw [← Go.Deep.add_add, hc q hq9]
      exact hq)
    refine ⟨(List.range len).map V, by simp, ?_, by simpa using hl⟩
    refine ⟨rfl, by simp [maxLen] at hm ⊢; omega, fun hp => ⟨a, rfl, fun j p hj => ?_⟩⟩
    have hjl : j < len := by
      rcases Nat.lt_or_ge j len with h | h
      · exact h
      · rw [List.getElem?_eq_none (by simpa using h)] at hj; cases hj
    have hpj : V j = p := by simpa [hjl] using hj
    subst hpj
    exact ⟨_, rfl, k41_mk w (V j), fun i u hu => hV j hjl i u hu⟩
theorem open_triple {v : Value} {r : Reach} {b0 : Nat} {d : DataW H} {ps : List MemPlace} (hval : Value.okWide Try.prog w r b0 41 v) (h : DataW.Trod enc Try.prog w base spare held 41 v d ps) :
    ∃ s : S41, v = .agg #[.int .i64 s.f0.f0, .string s.f0.f1, .string s.f0.f2, .int .i64 s.f1.f0, .string s.f1.f1, .string s.f1.f2, .int .i64 s.f2.f0, .string s.f2.f1, .string s.f2.f2] := by
  obtain ⟨cs, rfl, _⟩ := Go.WideShapes.okWide_struct Try.underlying41 hval
  obtain ⟨fuel, hf⟩ := h
  obtain ⟨s, hs⟩ := open_TR hf
  refine ⟨s, ?_⟩
  have : cs = (cs.toList).toArray := by simp
  have e : cs.toList = _ := hs
  rw [this, e]
end
end Go.Proofs.Ytdjamphmndbmjaa.M

/- What a law is handed, in plain words: a row of rows of triples. -/
namespace Go.Proofs.Ytdjamphmndbmjaa.M
open Go.RowKit Go.Proofs.YtdjamphmndbmjaaW.PrintWords Go.Proofs.YtdjamphmndbmjaaW.PrintLast Go.Proofs.YtdjamphmndbmjaaW.PrintMore
set_option linter.unusedVariables false
set_option linter.unusedSimpArgs false

set_option maxRecDepth 100000
open Go.Deep
section
variable {H : Type} {enc : TypeId × Value → H} {w : World} {base : Nat} {spare : Nat → Bool} {held : Bool}
theorem cells_TRS : Try.prog.cellsOf 26 = 1 := by kernel_rfl
theorem open_cell {fuel : Nat} {cs : List Value} {x : DataW H × List MemPlace} (h : DataW.trod enc Try.prog w base spare held fuel 26 cs = some x) :
    ∃ A c, ∃ l : List S41, cs = [.slice A l.length c] ∧ l.length ≤ c ∧ Kd.C k41 w A l.length l := by
  obtain ⟨d, ps⟩ := x
  rcases open_slice Try.underlying26 h with ⟨hcs, _⟩ | ⟨a, l, c, m, n, D, Pl, hcs, _⟩
  · subst hcs
    exact ⟨none, 0, [], rfl, Nat.le_refl _, C_none w⟩
  · subst hcs
    obtain ⟨l', hl, hC, hle⟩ := open_row (A := some a) (len := l) (cap := c) ⟨fuel, h⟩
    exact ⟨some a, c, l', by rw [hl], hle, hC⟩
theorem open_rows {A : Option Addr} {len cap : Nat} {d : DataW H} {ps : List MemPlace} (h : DataW.Trod enc Try.prog w base spare held 78 (.slice A len cap) d ps) :
    ∃ l : List (List S41), l.length = len ∧ Kd.C (Kd.slice 41 k41) w A l.length l ∧ l.length ≤ cap := by
  obtain ⟨fuel, hf⟩ := h
  rcases open_slice Try.underlying78 hf with ⟨hcs, _⟩ | ⟨a, l, c, m, n, D, Pl, hcs, _, hl, hm, hmm, _, hx⟩
  · simp [Value.cells] at hcs
    obtain ⟨rfl, rfl, rfl⟩ := hcs
    exact ⟨[], rfl, ⟨rfl, by simp, fun h => absurd h (Nat.lt_irrefl 0)⟩, Nat.le_refl _⟩
  · simp [Value.cells] at hcs
    obtain ⟨rfl, rfl, rfl⟩ := hcs
    have hlm : len ≤ m := by rw [hmm]; split <;> omega
    rw [cells_TRS] at hx
    obtain ⟨V, hV⟩ := choose_lt (α := List S41) (n := len) (p := fun i s => ∃ A c, s.length ≤ c ∧ Kd.C k41 w A s.length s ∧ w.cell? (a.add (i * 1 + 0)) = some (.slice A s.length c)) (fun i hi => by
      obtain ⟨cs', h1, h2⟩ := hx i (by omega)
      obtain ⟨A, c, s, rfl, hle, hC⟩ := open_cell h2
      obtain ⟨_, hlen, hc⟩ := World.cells?_some h1
      refine ⟨s, A, c, hle, hC, ?_⟩
      rw [← Go.Deep.add_add, hc 0 (by omega)]
      rfl)
    refine ⟨(List.range len).map V, by simp, ?_, by simpa using hl⟩
    refine ⟨rfl, by simp [maxLen] at hm ⊢; omega, fun hp => ⟨a, rfl, fun j p hj => ?_⟩⟩
    have hjl : j < len := by
      rcases Nat.lt_or_ge j len with h | h
      · exact h
      · rw [List.getElem?_eq_none (by simpa using h)] at hj; cases hj
    have hpj : V j = p := by simpa [hjl] using hj
    subst hpj
    obtain ⟨A, c, hle, hC, hcell⟩ := hV j hjl
    refine ⟨_, rfl, ⟨A, c, rfl, hle, hC⟩, fun i u hu => ?_⟩
    rcases i with _ | i
    · obtain rfl : Value.slice A (V j).length c = u := by simpa using hu
      exact hcell
    · simp at hu
end
end Go.Proofs.Ytdjamphmndbmjaa.M

/- The row of the law ChainSame: what it is handed is opened, the walk does the rest (printed by wip/genrow.py). -/
namespace Go.Proofs.Ytdjamphmndbmjaa.chainSame
open Go.ChangeShapes Go.WideShapes Go.ChangeAt Go.RowKit
set_option linter.unusedVariables false
theorem own : ownKnob Try.prog.godebug = none := by kernel_rfl
theorem laidOut : laidOutB Try.prog = true := by kernel_rfl
set_option maxRecDepth 100000 in
theorem lifted (os : Os) (started : os.Started) (H : Type) (enc : TypeId × Value → H) :
    ReturnsInHanded {} Try.checked os 9 .any (Rows.chainSameSpec.pre6 enc Try.prog Try.f9 Rows.chainSameRow.domain false) (Rows.chainSameSpec.post enc Try.prog Try.f9 false true false false) := by
  refine returnsInHanded_of_change_sized (C := Try.checked) own started (by kernel_rfl) Try.func9
    (ChangeSpec.witness6 (enc := enc) (C := Try.checked) false ⟨#[], #[.slice none 0 0, .int .i64 0, .int .i64 0], []⟩ 8 (by kernel_rfl) (by kernel_rfl) (by kernel_rfl) (by kernel_rfl)) ?_
  intro W base args ds gs before hval0 hW hcnd hsz0 _
  have hval : ∀ (j : Nat) t v, Try.f9.params[j]? = some t → args[j]? = some v → Value.okWide Try.prog W .any base t v := hval0
  have hW' := hW
  obtain ⟨p, q, hA0, hV, rfl, hfz, hnd⟩ := hW
  have hA : DataW.TrodAll enc Try.prog W 0 (fun _ => true) true Try.f9.params.toList args.toList ds p := hA0
  rw [Try.params9] at hA hval
  obtain ⟨v0, vs0, d0, ds0, p0, q0, hargs, rfl, rfl, h0, r0⟩ := trodAll_cons hA
  obtain ⟨v1, vs1, d1, ds1, p1, q1, rfl, rfl, rfl, h1, r1⟩ := trodAll_cons r0
  obtain ⟨v2, vs2, d2, ds2, p2, q2, rfl, rfl, rfl, h2, r2⟩ := trodAll_cons r1
  obtain ⟨rfl, rfl, rfl⟩ := trodAll_nil r2
  obtain rfl : args = #[v0, v1, v2] := by cases args; simp_all
  obtain ⟨rfl, rfl⟩ := trodVars_none hV
  have k0 := h0
  have lt0 : ∀ x ∈ p0, x.block < W.heap.size := by obtain ⟨m, hm⟩ := k0; exact DataW.trod_lt m _ _ _ hm
  obtain ⟨A0, len0, c0, rfl⟩ := okWide_slice Try.underlying78 (hval 0 78 v0 rfl rfl)
  obtain ⟨l0, rfl, hC0, hL0⟩ := M.open_rows h0
  have k1 := h1
  have lt1 : ∀ x ∈ p1, x.block < W.heap.size := by obtain ⟨m, hm⟩ := k1; exact DataW.trod_lt m _ _ _ hm
  obtain ⟨n1, rfl⟩ := okWide_int Try.underlying3 (hval 1 3 v1 rfl rfl)
  have k2 := h2
  have lt2 : ∀ x ∈ p2, x.block < W.heap.size := by obtain ⟨m, hm⟩ := k2; exact DataW.trod_lt m _ _ _ hm
  obtain ⟨n2, rfl⟩ := okWide_int Try.underlying3 (hval 2 3 v2 rfl rfl)
  clear hA0 hval0 hsz0
  refine (M.chainSame_walk A0 c0 l0 n1 n2 W hC0).mono fun e W' ⟨he, bel⟩ => ?_
  subst he
  exact ⟨_, rfl, _, _, _, [], _, [], hW', trodAll_mk1 (shut_bool Try.underlying4 _), ⟨_, _, (Below.trod laidOut (by kernel_rfl) (of_decide_eq_true (by kernel_rfl)) k0 bel lt0), ⟨_, _, (Below.trod laidOut (by kernel_rfl) (of_decide_eq_true (by kernel_rfl)) k1 bel lt1), ⟨_, _, (Below.trod laidOut (by kernel_rfl) (of_decide_eq_true (by kernel_rfl)) k2 bel lt2), rfl, rfl⟩, rfl⟩, rfl⟩, rfl, bel.frame _, fun h => by cases h⟩
theorem over : Rows.chainSameRow.holds Try.pinned (OpenSpec.ofChange Rows.chainSameSpec) :=
  OpenClaim.holds_of_wide 9 Try.f9 rfl rfl rfl rfl rfl rfl rfl ⟨rfl, rfl, rfl, rfl, rfl⟩ rfl rfl rfl rfl rfl (by kernel_rfl) Try.func9 (by kernel_rfl)
    (of_decide_eq_true (by kernel_rfl)) (by unfold Func.isWrapper; first | (rw [if_pos (by decide +kernel)]; kernel_rfl) | (rw [if_neg (by decide +kernel)]; exact ⟨rfl, rfl⟩))
    (fun os started H enc _ => lifted os started H enc)
theorem proved : Rows.ChainSameSaid := over
end Go.Proofs.Ytdjamphmndbmjaa.chainSame
namespace Go.Proofs.Ytdjamphmndbmjaa
/-- The row, under a short name, for the claim. -/
theorem chainSame_holds : Rows.ChainSameSaid := chainSame.proved
end Go.Proofs.Ytdjamphmndbmjaa
