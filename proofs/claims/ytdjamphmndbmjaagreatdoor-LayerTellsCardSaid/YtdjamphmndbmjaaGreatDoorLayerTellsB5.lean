/- Part 6 of 6 of the proof of LayerTellsCardSaid: a law of the given program, for every input; no condition is added. -/
import Derived.Test.YtdjamphmndbmjaaGreatDoorLayerTellsB4
import Derived.Deep.Slices
import Derived.Deep.Strs
import Derived.ChangeArms
import Derived.Carry
import Derived.OpenShut
import Derived.Test.YtdjamphmndbmjaaGreatDoorRows
import Derived.Test.YtdjamphmndbmjaaGreatDoorTie
import Derived.Test.YtdjamphmndbmjaaGreatDoorCards
import Derived.WalkKit
import Derived.ProofKit
import Derived.ShutString
import Derived.ChangeOld
import Derived.Below
import Derived.SizedLaws
import Derived.SevenTiedAt
import Derived.ChangeSame
import Derived.ChangeVars
import Derived.JoinedOf
import Derived.RowKit
import Derived.RowKitTokens
import Derived.LaidLaws
import Derived.LaidHandle
import Derived.Stop.Joined
import Derived.Handed
/- The law LayerTells, walked by hand (printed by wip/gen_layertells.py). -/
namespace Go.Proofs.YtdjamphmndbmjaaGreatDoor.M
open Go.RowKit Go.Proofs.YtdjamphmndbmjaaGreatDoorW.PrintWords Go.Proofs.YtdjamphmndbmjaaGreatDoorW.PrintLast Go.Proofs.YtdjamphmndbmjaaGreatDoorW.PrintMore
set_option linter.unusedVariables false
set_option linter.unusedSimpArgs false

theorem right2_bad {a b : List S25} {n : Int} (h : sortedR a = some n) : right2 a b = some n := by unfold right2; rw [h]
theorem betw_bad {a b : List S25} {n : Int} (h : right2 a b = some n) : betwR a b = (([], []), some n) := by unfold betwR; rw [h]
theorem apply_bad {s a t : List S25} {n : Int} (h : sortedR s = some n) : applyR s a t = ([], some n) := by unfold applyR; rw [h]
theorem apply_bad2 {s a t : List S25} {n : Int} (h : sortedR s = none) (h2 : layErr a t = some n) : applyR s a t = ([], some n) := by unfold applyR; rw [h, h2]
theorem then_bad {a t a' t' : List S25} {n : Int} (h : layErr a t = some n) : thenR a t a' t' = (([], []), some n) := by unfold thenR; rw [h]
theorem then_bad2 {a t a' t' : List S25} {n : Int} (h : layErr a t = none) (h2 : layErr a' t' = some n) : thenR a t a' t' = (([], []), some n) := by unfold thenR; rw [h, h2]
theorem codeE_eq0 {r : Option Int} (h : r = none) : (codeE r == 0) = true := by subst h; rfl
theorem codeE_ne0 {r : Option Int} {n : Int} (h : r = some n) (hn : n ≠ 0) : (codeE r == 0) = false := by subst h; simpa [codeE] using hn
set_option maxHeartbeats 40000000 in
set_option maxRecDepth 100000 in
theorem layerTells_walk (As : Option Addr) (cs : Nat) (s : List S25) (Aa : Option Addr) (ca : Nat) (a : List S25) (At : Option Addr) (ct : Nat) (t : List S25) (Ab : Option Addr) (cb : Nat) (b : List S25) (Au : Option Addr) (cu : Nat) (u : List S25) (Ao : Option Addr) (co : Nat) (o : List S25) (w : World) (hrs : Kd.C k25 w As s.length s) (hcs : s.length ≤ cs) (hra : Kd.C k25 w Aa a.length a) (hca : a.length ≤ ca) (hrt : Kd.C k25 w At t.length t) (hct : t.length ≤ ct) (hrb : Kd.C k25 w Ab b.length b) (hcb : b.length ≤ cb) (hru : Kd.C k25 w Au u.length u) (hcu : u.length ≤ cu) (hro : Kd.C k25 w Ao o.length o) (hco : o.length ≤ co) (hg : Glob w) :
    Calls Tryz.prog 6 #[.slice As s.length cs, .agg #[.slice Aa a.length ca, .slice At t.length ct], .agg #[.slice Ab b.length cb, .slice Au u.length cu], .slice Ao o.length co] w fun e w' => e = .returned (.bool true) ∧ Below w.heap.size w w' := by
  obtain ⟨W0, hW0⟩ : ∃ W0, W0 = ((w.alloc (.cells #[.slice Aa a.length ca, .slice At t.length ct] 48)).alloc (.cells #[.slice Ab b.length cb, .slice Au u.length cu] 48)) := ⟨_, rfl⟩
  have HRs : Aside0 (Kd.C k25 W0 As s.length s) := ⟨by rw [hW0]; exact Kd.C_alloc (Kd.C_alloc hrs _) _⟩; have HCs := Aside0.mk hcs
  have HRa : Aside0 (Kd.C k25 W0 Aa a.length a) := ⟨by rw [hW0]; exact Kd.C_alloc (Kd.C_alloc hra _) _⟩; have HCa := Aside0.mk hca
  have HRt : Aside0 (Kd.C k25 W0 At t.length t) := ⟨by rw [hW0]; exact Kd.C_alloc (Kd.C_alloc hrt _) _⟩; have HCt := Aside0.mk hct
  have HRb : Aside0 (Kd.C k25 W0 Ab b.length b) := ⟨by rw [hW0]; exact Kd.C_alloc (Kd.C_alloc hrb _) _⟩; have HCb := Aside0.mk hcb
  have HRu : Aside0 (Kd.C k25 W0 Au u.length u) := ⟨by rw [hW0]; exact Kd.C_alloc (Kd.C_alloc hru _) _⟩; have HCu := Aside0.mk hcu
  have HRo : Aside0 (Kd.C k25 W0 Ao o.length o) := ⟨by rw [hW0]; exact Kd.C_alloc (Kd.C_alloc hro _) _⟩; have HCo := Aside0.mk hco
  have HB0 : Aside0 (Below w.heap.size w W0) := ⟨by rw [hW0]; exact below_alloc (below_alloc (Below.refl _ _) _) _⟩
  have Bl : Aside0 (Box W0 w.heap.size #[.slice Aa a.length ca, .slice At t.length ct]) := ⟨by rw [hW0]; exact fun c v h => cell?_alloc_old (Box.new w _ _ c v h) _⟩
  have Bm : Aside0 (Box W0 (w.heap.size + 1) #[.slice Ab b.length cb, .slice Au u.length cu]) := ⟨by rw [hW0]; exact fun c v h => by have q := Box.new (w.alloc (.cells #[.slice Aa a.length ca, .slice At t.length ct] 48)) #[.slice Ab b.length cb, .slice Au u.length cu] 48 c v h; rw [alloc_size1] at q; exact q⟩
  have HG : Aside0 (Glob W0) := ⟨hg.below HB0.out⟩
  have HL : Aside0 (Below W0.heap.size W0 ((w.alloc (.cells #[.slice Aa a.length ca, .slice At t.length ct] 48)).alloc (.cells #[.slice Ab b.length cb, .slice Au u.length cu] 48))) := ⟨by rw [hW0]; exact Below.refl _ _⟩
  clear hrs hcs hra hca hrt hct hrb hcb hru hcu hro hco hg hW0
  obtain ⟨el, hel⟩ : ∃ r, layErr a t = r := ⟨_, rfl⟩; obtain ⟨em, hem⟩ : ∃ r, layErr b u = r := ⟨_, rfl⟩; obtain ⟨es, hes⟩ : ∃ r, sortedR s = r := ⟨_, rfl⟩; obtain ⟨e2, he2⟩ : ∃ r, right2 s o = r := ⟨_, rfl⟩
  obtain ⟨g, eg, hA⟩ : ∃ g eg, applyR s a t = (g, eg) := ⟨_, _, rfl⟩; obtain ⟨p, q, ep, hP⟩ : ∃ p q ep, betwR s o = ((p, q), ep) := ⟨_, _, _, rfl⟩; obtain ⟨r1, r2, er, hT⟩ : ∃ r1 r2 er, thenR a t b u = ((r1, r2), er) := ⟨_, _, _, rfl⟩
  have cRL0 := fun W h1 h2 => rlayer_calls Aa ca a At ct t W h1 h2; simp only [hel] at cRL0; have cRL := Aside0.mk cRL0; clear cRL0
  have cLC0 := fun W h1 k1 h2 k2 => lcheck_calls Aa ca a At ct t W h1 k1 h2 k2; simp only [hel] at cLC0; have cLC := Aside0.mk cLC0; clear cLC0
  have cRS0 := fun W h => rset_calls As cs s W h; simp only [hes] at cRS0; have cRS := Aside0.mk cRS0; clear cRS0
  have cAP0 := fun W h1 k1 h2 k2 h3 k3 => apply_calls As cs s Aa ca a At ct t W h1 k1 h2 k2 h3 k3; simp only [hA] at cAP0; have cAP := Aside0.mk cAP0; clear cAP0
  have cTW0 := fun W h1 h2 => rtwo_calls As cs s Ao co o W h1 h2; simp only [he2] at cTW0; have cTW := Aside0.mk cTW0; clear cTW0
  have cBT0 := fun W h1 k1 h2 k2 => betw_calls As cs s Ao co o W h1 k1 h2 k2; simp only [hP] at cBT0; have cBT := Aside0.mk cBT0; clear cBT0
  have cTN0 := fun W h1 k1 h2 k2 => turn_calls Aa ca a At ct t W h1 k1 h2 k2; simp only [hel] at cTN0; have cTN := Aside0.mk cTN0; clear cTN0
  have cRM0 := fun W h1 h2 => rlayer_calls Ab cb b Au cu u W h1 h2; simp only [hem] at cRM0; have cRM := Aside0.mk cRM0; clear cRM0
  have cTH0 := fun W h1 k1 h2 k2 h3 k3 h4 k4 => then_calls Aa ca a At ct t Ab cb b Au cu u W h1 k1 h2 k2 h3 k3 h4 k4; simp only [hT] at cTH0; have cTH := Aside0.mk cTH0; clear cTH0
  have cRA0 := fun h0 h1 W k0 k1 k2 => rapply_calls As cs s Aa ca a At ct t W k0 k1 k2 h0 h1; simp only [hA] at cRA0; have cRA := Aside0.mk cRA0; clear cRA0
  have cRT0 := fun h1 h2 W k1 k2 k3 k4 => rthen_calls Aa ca a At ct t Ab cb b Au cu u W k1 k2 k3 k4 h1 h2; simp only [hT] at cRT0; have cRT := Aside0.mk cRT0; clear cRT0
  have HEL := Aside0.mk hel; have HEM := Aside0.mk hem; have HES := Aside0.mk hes; have HE2 := Aside0.mk he2; have HA := Aside0.mk hA; have HP := Aside0.mk hP; have HT := Aside0.mk hT; clear hel hem hes he2 hA hP hT
  go_enter Tryz.func6, Tryz.ntmps6
  go_wp2_with (first | (go_at_call 28; refine stop_ ?_) | (go_at_call 17; refine stop_ ?_) | (go_at_call 45; refine stop_ ?_) | (go_at_call 47; refine stop_ ?_) | (go_at_call 48; refine stop_ ?_) | (go_at_call 51; refine stop_ ?_) | (go_at_call 44; refine stop_ ?_) | (go_at_call 46; refine stop_ ?_) | (go_at_call 49; refine stop_ ?_) | (go_at_call 50; refine stop_ ?_) | (go_at_call 52; refine stop_ ?_) | (go_at_call 10; refine stop_ ?_) | (go_at_call 20; refine stop_ ?_) | (go_at_call 36; refine stop_ ?_))
  refine ⟨?_⟩
  refine Calls.mono (cRL.out _ (Kd.C_below HRa.out HL.out) (Kd.C_below HRt.out HL.out)) ?_
  rintro e w1 ⟨rfl, hb⟩
  have HLn := Aside0.mk (below_step (show Below W0.heap.size W0 _ from HL.out) hb)
  clear HL
  have HL := HLn; clear HLn
  clear hb
  have yl0 := ((Box.keep (Below.refl _ _) HL.out Bl.out) 0 (.slice Aa a.length ca) rfl)
  have yl1 := ((Box.keep (Below.refl _ _) HL.out Bl.out) 1 (.slice At t.length ct) rfl)
  go_wp2_with (first | (go_at_call 28; refine stop_ ?_) | (go_at_call 17; refine stop_ ?_) | (go_at_call 45; refine stop_ ?_) | (go_at_call 47; refine stop_ ?_) | (go_at_call 48; refine stop_ ?_) | (go_at_call 51; refine stop_ ?_) | (go_at_call 44; refine stop_ ?_) | (go_at_call 46; refine stop_ ?_) | (go_at_call 49; refine stop_ ?_) | (go_at_call 50; refine stop_ ?_) | (go_at_call 52; refine stop_ ?_) | (go_at_call 10; refine stop_ ?_) | (go_at_call 20; refine stop_ ?_) | (go_at_call 36; refine stop_ ?_))
  refine ⟨?_⟩
  clear yl0 yl1
  refine Calls.mono (cLC.out _ (Kd.C_below HRa.out HL.out) HCa.out (Kd.C_below HRt.out HL.out) HCt.out) ?_
  rintro e w2 ⟨rfl, hb⟩
  have HLn := Aside0.mk (below_step (show Below W0.heap.size W0 _ from HL.out) hb)
  clear HL
  have HL := HLn; clear HLn
  clear hb
  go_wp2_with (first | (go_at_call 28; refine stop_ ?_) | (go_at_call 17; refine stop_ ?_) | (go_at_call 45; refine stop_ ?_) | (go_at_call 47; refine stop_ ?_) | (go_at_call 48; refine stop_ ?_) | (go_at_call 51; refine stop_ ?_) | (go_at_call 44; refine stop_ ?_) | (go_at_call 46; refine stop_ ?_) | (go_at_call 49; refine stop_ ?_) | (go_at_call 50; refine stop_ ?_) | (go_at_call 52; refine stop_ ?_) | (go_at_call 10; refine stop_ ?_) | (go_at_call 20; refine stop_ ?_) | (go_at_call 36; refine stop_ ?_))
  refine ⟨?_⟩
  refine Calls.mono (error_true (r := el) (e := codeE el) rfl _ (HG.out.below HL.out)) ?_
  rintro e w3 ⟨rfl, hb⟩
  have HLn := Aside0.mk (below_step (show Below W0.heap.size W0 _ from HL.out) hb)
  clear HL
  have HL := HLn; clear HLn
  clear hb
  go_wp2_with (first | (go_at_call 28; refine stop_ ?_) | (go_at_call 17; refine stop_ ?_) | (go_at_call 45; refine stop_ ?_) | (go_at_call 47; refine stop_ ?_) | (go_at_call 48; refine stop_ ?_) | (go_at_call 51; refine stop_ ?_) | (go_at_call 44; refine stop_ ?_) | (go_at_call 46; refine stop_ ?_) | (go_at_call 49; refine stop_ ?_) | (go_at_call 50; refine stop_ ?_) | (go_at_call 52; refine stop_ ?_) | (go_at_call 10; refine stop_ ?_) | (go_at_call 20; refine stop_ ?_) | (go_at_call 36; refine stop_ ?_))
  refine ⟨?_⟩
  refine Calls.mono (cRS.out _ (Kd.C_below HRs.out HL.out)) ?_
  rintro e w4 ⟨rfl, hb⟩
  replace hb := hb.bel
  have HLn := Aside0.mk (below_step (show Below W0.heap.size W0 _ from HL.out) hb)
  clear HL
  have HL := HLn; clear HLn
  clear hb
  clear cRL cLC cRS
  by_cases qS : es = none
  · have tS := codeE_eq0 qS; have QS := Aside0.mk qS; clear qS
    by_cases qL : el = none
    · have tL := codeE_eq0 qL; have QL := Aside0.mk qL; clear qL
      have yl0 := ((Box.keep (Below.refl _ _) HL.out Bl.out) 0 (.slice Aa a.length ca) rfl)
      have yl1 := ((Box.keep (Below.refl _ _) HL.out Bl.out) 1 (.slice At t.length ct) rfl)
      go_wp2_with (first | (go_at_call 28; refine stop_ ?_) | (go_at_call 17; refine stop_ ?_) | (go_at_call 45; refine stop_ ?_) | (go_at_call 47; refine stop_ ?_) | (go_at_call 48; refine stop_ ?_) | (go_at_call 51; refine stop_ ?_) | (go_at_call 44; refine stop_ ?_) | (go_at_call 46; refine stop_ ?_) | (go_at_call 49; refine stop_ ?_) | (go_at_call 50; refine stop_ ?_) | (go_at_call 52; refine stop_ ?_) | (go_at_call 10; refine stop_ ?_) | (go_at_call 20; refine stop_ ?_) | (go_at_call 36; refine stop_ ?_))
      refine ⟨?_⟩
      clear yl0 yl1
      refine Calls.mono (cRA.out (HES.out.trans QS.out) (HEL.out.trans QL.out) _ (Kd.C_below HRs.out HL.out) (Kd.C_below HRa.out HL.out) (Kd.C_below HRt.out HL.out)) ?_
      rintro e w5 ⟨v, rfl, hv, hb⟩
      have HLn := Aside0.mk (below_step (show Below W0.heap.size W0 _ from HL.out) hb)
      obtain ⟨An, cn, ev⟩ := Kd.R_slice hv
      subst ev
      have HOn := Aside0.mk (Kd.R_lower hv (show Below W0.heap.size W0 _ from HL.out).size)
      clear hv
      clear HL
      have HL := HLn; clear HLn
      clear hb
      have yl0 := ((Box.keep (Below.refl _ _) HL.out Bl.out) 0 (.slice Aa a.length ca) rfl)
      have yl1 := ((Box.keep (Below.refl _ _) HL.out Bl.out) 1 (.slice At t.length ct) rfl)
      go_wp2_with (first | (go_at_call 28; refine stop_ ?_) | (go_at_call 17; refine stop_ ?_) | (go_at_call 45; refine stop_ ?_) | (go_at_call 47; refine stop_ ?_) | (go_at_call 48; refine stop_ ?_) | (go_at_call 51; refine stop_ ?_) | (go_at_call 44; refine stop_ ?_) | (go_at_call 46; refine stop_ ?_) | (go_at_call 49; refine stop_ ?_) | (go_at_call 50; refine stop_ ?_) | (go_at_call 52; refine stop_ ?_) | (go_at_call 10; refine stop_ ?_) | (go_at_call 20; refine stop_ ?_) | (go_at_call 36; refine stop_ ?_))
      refine ⟨?_⟩
      clear yl0 yl1
      refine Calls.mono (cAP.out _ (Kd.C_below HRs.out HL.out) HCs.out (Kd.C_below HRa.out HL.out) HCa.out (Kd.C_below HRt.out HL.out) HCt.out) ?_
      rintro e w6 ⟨v, rfl, hv, hb⟩
      have HLn := Aside0.mk (below_step (show Below W0.heap.size W0 _ from HL.out) hb)
      have HOnn := Aside0.mk (Kd.R_below HOn.out hb)
      obtain ⟨Ag, cg, ev⟩ := Kd.R_slice hv
      subst ev
      have HOg := Aside0.mk (Kd.R_lower hv (show Below W0.heap.size W0 _ from HL.out).size)
      clear hv
      clear HL HOn
      have HL := HLn; clear HLn
      have HOn := HOnn; clear HOnn
      clear hb
      go_wp2_with (first | (go_at_call 28; refine stop_ ?_) | (go_at_call 17; refine stop_ ?_) | (go_at_call 45; refine stop_ ?_) | (go_at_call 47; refine stop_ ?_) | (go_at_call 48; refine stop_ ?_) | (go_at_call 51; refine stop_ ?_) | (go_at_call 44; refine stop_ ?_) | (go_at_call 46; refine stop_ ?_) | (go_at_call 49; refine stop_ ?_) | (go_at_call 50; refine stop_ ?_) | (go_at_call 52; refine stop_ ?_) | (go_at_call 10; refine stop_ ?_) | (go_at_call 20; refine stop_ ?_) | (go_at_call 36; refine stop_ ?_))
      refine ⟨?_⟩
      refine Calls.mono (error_true (r := eg) (e := codeE eg) rfl _ (HG.out.below HL.out)) ?_
      rintro e w7 ⟨rfl, hb⟩
      have HLn := Aside0.mk (below_step (show Below W0.heap.size W0 _ from HL.out) hb)
      have HOnn := Aside0.mk (Kd.R_below HOn.out hb)
      have HOng := Aside0.mk (Kd.R_below HOg.out hb)
      clear HL HOn HOg
      have HL := HLn; clear HLn
      have HOn := HOnn; clear HOnn
      have HOg := HOng; clear HOng
      clear hb
      go_wp2_with (first | (go_at_call 28; refine stop_ ?_) | (go_at_call 17; refine stop_ ?_) | (go_at_call 45; refine stop_ ?_) | (go_at_call 47; refine stop_ ?_) | (go_at_call 48; refine stop_ ?_) | (go_at_call 51; refine stop_ ?_) | (go_at_call 44; refine stop_ ?_) | (go_at_call 46; refine stop_ ?_) | (go_at_call 49; refine stop_ ?_) | (go_at_call 50; refine stop_ ?_) | (go_at_call 52; refine stop_ ?_) | (go_at_call 10; refine stop_ ?_) | (go_at_call 20; refine stop_ ?_) | (go_at_call 36; refine stop_ ?_))
      refine ⟨?_⟩
      refine Calls.mono (same_true rfl Ag An cg cn _ (Kd.R_reads' HOg.out).2.2 (Kd.R_reads' HOn.out).2.2) ?_
      rintro e w8 ⟨rfl, hb⟩
      have HLn := Aside0.mk (below_step (show Below W0.heap.size W0 _ from HL.out) hb)
      have HOnn := Aside0.mk (Kd.R_below HOn.out hb)
      have HOng := Aside0.mk (Kd.R_below HOg.out hb)
      clear HL HOn HOg
      have HL := HLn; clear HLn
      have HOn := HOnn; clear HOnn
      have HOg := HOng; clear HOng
      clear hb
      clear HOg HOn
      go_wp2_with (first | (go_at_call 28; refine stop_ ?_) | (go_at_call 17; refine stop_ ?_) | (go_at_call 45; refine stop_ ?_) | (go_at_call 47; refine stop_ ?_) | (go_at_call 48; refine stop_ ?_) | (go_at_call 51; refine stop_ ?_) | (go_at_call 44; refine stop_ ?_) | (go_at_call 46; refine stop_ ?_) | (go_at_call 49; refine stop_ ?_) | (go_at_call 50; refine stop_ ?_) | (go_at_call 52; refine stop_ ?_) | (go_at_call 10; refine stop_ ?_) | (go_at_call 20; refine stop_ ?_) | (go_at_call 36; refine stop_ ?_))
      refine ⟨?_⟩
      refine Calls.mono (cTW.out _ (Kd.C_below HRs.out HL.out) (Kd.C_below HRo.out HL.out)) ?_
      rintro e w9 ⟨rfl, hb⟩
      replace hb := hb.bel
      have HLn := Aside0.mk (below_step (show Below W0.heap.size W0 _ from HL.out) hb)
      clear HL
      have HL := HLn; clear HLn
      clear hb
      by_cases q2 : e2 = none
      · have t2 := codeE_eq0 q2; have Q2 := Aside0.mk q2; clear q2
        have hgood : betwR s o = ((partR o s false, partR s o false), none) := by unfold betwR; rw [HE2.out.trans Q2.out]
        rw [HP.out] at hgood; have E2P : Aside0 (ep = e2) := ⟨by rw [Q2.out]; exact congrArg Prod.snd hgood⟩; have EP1 : Aside0 (p = partR o s false) := ⟨congrArg (fun z => z.1.1) hgood⟩; have EP2 : Aside0 (q = partR s o false) := ⟨congrArg (fun z => z.1.2) hgood⟩; clear hgood
        have HIn := Aside0.mk (show W0.heap.size ≤ w9.heap.size from HL.out.size)
        go_wp2_with (first | (go_at_call 28; refine stop_ ?_) | (go_at_call 17; refine stop_ ?_) | (go_at_call 45; refine stop_ ?_) | (go_at_call 47; refine stop_ ?_) | (go_at_call 48; refine stop_ ?_) | (go_at_call 51; refine stop_ ?_) | (go_at_call 44; refine stop_ ?_) | (go_at_call 46; refine stop_ ?_) | (go_at_call 49; refine stop_ ?_) | (go_at_call 50; refine stop_ ?_) | (go_at_call 52; refine stop_ ?_) | (go_at_call 10; refine stop_ ?_) | (go_at_call 20; refine stop_ ?_) | (go_at_call 36; refine stop_ ?_))
        refine ⟨?_⟩
        refine Calls.mono (rpart_calls Ao co o As cs s false _ (Kd.C_below HRo.out (below_alloc HL.out _)) (Kd.C_below HRs.out (below_alloc HL.out _)) (by have := sortedR_len (right2_none.1 (HE2.out.trans Q2.out)).2; omega)) ?_
        rintro e w10 ⟨v, rfl, hv, hb⟩
        have HLn := Aside0.mk (below_step (show Below W0.heap.size W0 _ from (below_alloc HL.out _)) hb)
        have HKnn : Aside0 (w10.heap[w9.heap.size]? = some (.cells #[.slice none 0 0, .slice none 0 0] 48 (0, 0))) := ⟨blk_below (blk_new _ _) hb⟩
        obtain ⟨Ax, cx, ev⟩ := Kd.R_slice hv
        subst ev
        have HOx := Aside0.mk (Kd.R_lower hv (show Below W0.heap.size W0 _ from (below_alloc HL.out _)).size)
        clear hv
        clear HL
        have HL := HLn; clear HLn
        have HKn := HKnn; clear HKnn
        clear hb
        have yn0 := ((blk_cell HKn.out 0).trans (show _ = some (.slice none 0 0) from rfl))
        have yn1 := ((blk_cell HKn.out 1).trans (show _ = some (.slice none 0 0) from rfl))
        have yfn0 := blk_frozen HKn.out 0
        have yfn1 := blk_frozen HKn.out 1
        go_wp2_with (first | (go_at_call 28; refine stop_ ?_) | (go_at_call 17; refine stop_ ?_) | (go_at_call 45; refine stop_ ?_) | (go_at_call 47; refine stop_ ?_) | (go_at_call 48; refine stop_ ?_) | (go_at_call 51; refine stop_ ?_) | (go_at_call 44; refine stop_ ?_) | (go_at_call 46; refine stop_ ?_) | (go_at_call 49; refine stop_ ?_) | (go_at_call 50; refine stop_ ?_) | (go_at_call 52; refine stop_ ?_) | (go_at_call 10; refine stop_ ?_) | (go_at_call 20; refine stop_ ?_) | (go_at_call 36; refine stop_ ?_))
        clear yn0 yn1 yfn0 yfn1
        refine ⟨?_⟩
        refine Calls.mono (rpart_calls As cs s Ao co o false _ (Kd.C_below HRs.out (below_set HL.out HIn.out)) (Kd.C_below HRo.out (below_set HL.out HIn.out)) (by have := sortedR_len (right2_none.1 (HE2.out.trans Q2.out)).1; omega)) ?_
        rintro e w11 ⟨v, rfl, hv, hb⟩
        have HLn := Aside0.mk (below_step (show Below W0.heap.size W0 _ from (below_set HL.out HIn.out)) hb)
        have HOnx := Aside0.mk (Kd.R_below (Kd.R_set HOx.out HKn.out (by decide) 0 _) hb)
        have HKnn : Aside0 (w11.heap[w9.heap.size]? = some (.cells #[.slice Ax (partR o s false).length cx, .slice none 0 0] 48 (0, 0))) := ⟨blk_below (blk_put HKn.out 0 _ rfl) hb⟩
        obtain ⟨Ay, cy, ev⟩ := Kd.R_slice hv
        subst ev
        have HOy := Aside0.mk (Kd.R_lower hv (show Below W0.heap.size W0 _ from (below_set HL.out HIn.out)).size)
        clear hv
        clear HL HOx HKn
        have HL := HLn; clear HLn
        have HOx := HOnx; clear HOnx
        have HKn := HKnn; clear HKnn
        clear hb
        have yn0 := ((blk_cell HKn.out 0).trans (show _ = some (.slice Ax (partR o s false).length cx) from rfl))
        have yn1 := ((blk_cell HKn.out 1).trans (show _ = some (.slice none 0 0) from rfl))
        have yfn0 := blk_frozen HKn.out 0
        have yfn1 := blk_frozen HKn.out 1
        go_wp2_with (first | (go_at_call 28; refine stop_ ?_) | (go_at_call 17; refine stop_ ?_) | (go_at_call 45; refine stop_ ?_) | (go_at_call 47; refine stop_ ?_) | (go_at_call 48; refine stop_ ?_) | (go_at_call 51; refine stop_ ?_) | (go_at_call 44; refine stop_ ?_) | (go_at_call 46; refine stop_ ?_) | (go_at_call 49; refine stop_ ?_) | (go_at_call 50; refine stop_ ?_) | (go_at_call 52; refine stop_ ?_) | (go_at_call 10; refine stop_ ?_) | (go_at_call 20; refine stop_ ?_) | (go_at_call 36; refine stop_ ?_))
        clear yn0 yn1 yfn0 yfn1
        refine ⟨?_⟩
        refine Calls.mono (cBT.out _ (Kd.C_below HRs.out (below_set HL.out HIn.out)) HCs.out (Kd.C_below HRo.out (below_set HL.out HIn.out)) HCo.out) ?_
        rintro e w12 ⟨v, rfl, hv, hb⟩
        have HLn := Aside0.mk (below_step (show Below W0.heap.size W0 _ from (below_set HL.out HIn.out)) hb)
        have HOnx := Aside0.mk (Kd.R_below (Kd.R_set HOx.out HKn.out (by decide) 1 _) hb)
        have HOny := Aside0.mk (Kd.R_below (Kd.R_set HOy.out HKn.out (by decide) 1 _) hb)
        have HKnn : Aside0 (w12.heap[w9.heap.size]? = some (.cells #[.slice Ax (partR o s false).length cx, .slice Ay (partR s o false).length cy] 48 (0, 0))) := ⟨blk_below (blk_put HKn.out 1 _ rfl) hb⟩
        obtain ⟨v1, v2, ev, hv1, hv2⟩ := hv
        subst ev
        obtain ⟨Ap, cp, ev⟩ := Kd.R_slice hv1
        subst ev
        obtain ⟨Aq, cq, ev⟩ := Kd.R_slice hv2
        subst ev
        have HOp := Aside0.mk (Kd.R_lower hv1 (show Below W0.heap.size W0 _ from (below_set HL.out HIn.out)).size)
        have HOq := Aside0.mk (Kd.R_lower hv2 (show Below W0.heap.size W0 _ from (below_set HL.out HIn.out)).size)
        clear hv1 hv2
        clear HL HOx HOy HKn
        have HL := HLn; clear HLn
        have HOx := HOnx; clear HOnx
        have HOy := HOny; clear HOny
        have HKn := HKnn; clear HKnn
        clear hb
        have HIx := Aside0.mk (show W0.heap.size ≤ w12.heap.size from HL.out.size)
        go_wp2_with (first | (go_at_call 28; refine stop_ ?_) | (go_at_call 17; refine stop_ ?_) | (go_at_call 45; refine stop_ ?_) | (go_at_call 47; refine stop_ ?_) | (go_at_call 48; refine stop_ ?_) | (go_at_call 51; refine stop_ ?_) | (go_at_call 44; refine stop_ ?_) | (go_at_call 46; refine stop_ ?_) | (go_at_call 49; refine stop_ ?_) | (go_at_call 50; refine stop_ ?_) | (go_at_call 52; refine stop_ ?_) | (go_at_call 10; refine stop_ ?_) | (go_at_call 20; refine stop_ ?_) | (go_at_call 36; refine stop_ ?_))
        refine ⟨?_⟩
        refine Calls.mono (error_true (r := ep) (e := codeE e2) (congrArg codeE E2P.out) _ (HG.out.below (below_alloc HL.out _))) ?_
        rintro e w13 ⟨rfl, hb⟩
        have HLn := Aside0.mk (below_step (show Below W0.heap.size W0 _ from (below_alloc HL.out _)) hb)
        have HOnx := Aside0.mk (Kd.R_below (Kd.R_alloc HOx.out _) hb)
        have HOny := Aside0.mk (Kd.R_below (Kd.R_alloc HOy.out _) hb)
        have HOnp := Aside0.mk (Kd.R_below (Kd.R_alloc HOp.out _) hb)
        have HOnq := Aside0.mk (Kd.R_below (Kd.R_alloc HOq.out _) hb)
        have HKnn : Aside0 (w13.heap[w9.heap.size]? = some (.cells #[.slice Ax (partR o s false).length cx, .slice Ay (partR s o false).length cy] 48 (0, 0))) := ⟨blk_below (blk_alloc HKn.out _) hb⟩
        have HKnx : Aside0 (w13.heap[w12.heap.size]? = some (.cells #[.slice Ap p.length cp, .slice Aq q.length cq] 48 (0, 0))) := ⟨blk_below (blk_new _ _) hb⟩
        clear HL HOx HOy HOp HOq HKn
        have HL := HLn; clear HLn
        have HOx := HOnx; clear HOnx
        have HOy := HOny; clear HOny
        have HOp := HOnp; clear HOnp
        have HOq := HOnq; clear HOnq
        have HKn := HKnn; clear HKnn
        have HKx := HKnx; clear HKnx
        clear hb
        have yx0 := ((blk_cell HKx.out 0).trans (show _ = some (.slice Ap p.length cp) from rfl))
        have yx1 := ((blk_cell HKx.out 1).trans (show _ = some (.slice Aq q.length cq) from rfl))
        have yn0 := ((blk_cell HKn.out 0).trans (show _ = some (.slice Ax (partR o s false).length cx) from rfl))
        have yn1 := ((blk_cell HKn.out 1).trans (show _ = some (.slice Ay (partR s o false).length cy) from rfl))
        go_wp2_with (first | (go_at_call 28; refine stop_ ?_) | (go_at_call 17; refine stop_ ?_) | (go_at_call 45; refine stop_ ?_) | (go_at_call 47; refine stop_ ?_) | (go_at_call 48; refine stop_ ?_) | (go_at_call 51; refine stop_ ?_) | (go_at_call 44; refine stop_ ?_) | (go_at_call 46; refine stop_ ?_) | (go_at_call 49; refine stop_ ?_) | (go_at_call 50; refine stop_ ?_) | (go_at_call 52; refine stop_ ?_) | (go_at_call 10; refine stop_ ?_) | (go_at_call 20; refine stop_ ?_) | (go_at_call 36; refine stop_ ?_))
        refine ⟨?_⟩
        clear yx0 yx1 yn0 yn1
        refine Calls.mono (sameL_true EP1.out EP2.out Ap cp Aq cq Ax cx Ay cy _ (Kd.R_reads' HOp.out).2.2 (Kd.R_reads' HOq.out).2.2 (Kd.R_reads' HOx.out).2.2 (Kd.R_reads' HOy.out).2.2) ?_
        rintro e w14 ⟨rfl, hb⟩
        have HLn := Aside0.mk (below_step (show Below W0.heap.size W0 _ from HL.out) hb)
        have HOnx := Aside0.mk (Kd.R_below HOx.out hb)
        have HOny := Aside0.mk (Kd.R_below HOy.out hb)
        have HOnp := Aside0.mk (Kd.R_below HOp.out hb)
        have HOnq := Aside0.mk (Kd.R_below HOq.out hb)
        have HKnn : Aside0 (w14.heap[w9.heap.size]? = some (.cells #[.slice Ax (partR o s false).length cx, .slice Ay (partR s o false).length cy] 48 (0, 0))) := ⟨blk_below HKn.out hb⟩
        have HKnx : Aside0 (w14.heap[w12.heap.size]? = some (.cells #[.slice Ap p.length cp, .slice Aq q.length cq] 48 (0, 0))) := ⟨blk_below HKx.out hb⟩
        clear HL HOx HOy HOp HOq HKn HKx
        have HL := HLn; clear HLn
        have HOx := HOnx; clear HOnx
        have HOy := HOny; clear HOny
        have HOp := HOnp; clear HOnp
        have HOq := HOnq; clear HOnq
        have HKn := HKnn; clear HKnn
        have HKx := HKnx; clear HKnx
        clear hb
        clear HOp HOq HOx HOy
        clear HKn
        clear HKx
        have HId := Aside0.mk (show W0.heap.size ≤ w14.heap.size from HL.out.size)
        have yol0 := fun (o : Obj) => cell?_alloc_old ((Box.keep (Below.refl _ _) HL.out Bl.out) 0 (.slice Aa a.length ca) rfl) o
        have yol1 := fun (o : Obj) => cell?_alloc_old ((Box.keep (Below.refl _ _) HL.out Bl.out) 1 (.slice At t.length ct) rfl) o
        go_wp2_with (first | (go_at_call 28; refine stop_ ?_) | (go_at_call 17; refine stop_ ?_) | (go_at_call 45; refine stop_ ?_) | (go_at_call 47; refine stop_ ?_) | (go_at_call 48; refine stop_ ?_) | (go_at_call 51; refine stop_ ?_) | (go_at_call 44; refine stop_ ?_) | (go_at_call 46; refine stop_ ?_) | (go_at_call 49; refine stop_ ?_) | (go_at_call 50; refine stop_ ?_) | (go_at_call 52; refine stop_ ?_) | (go_at_call 10; refine stop_ ?_) | (go_at_call 20; refine stop_ ?_) | (go_at_call 36; refine stop_ ?_))
        refine ⟨?_⟩
        clear yol0 yol1
        refine Calls.mono (cTN.out _ (Kd.C_below HRa.out (below_alloc HL.out _)) HCa.out (Kd.C_below HRt.out (below_alloc HL.out _)) HCt.out) ?_
        rintro e w15 ⟨v, rfl, hv, hb⟩
        have HLn := Aside0.mk (below_step (show Below W0.heap.size W0 _ from (below_alloc HL.out _)) hb)
        have HKnd : Aside0 (w15.heap[w14.heap.size]? = some (.cells #[.slice At t.length ct, .slice Aa a.length ca] 48 (0, 0))) := ⟨blk_below (blk_new _ _) hb⟩
        rw [if_pos QL.out, if_pos QL.out] at hv
        obtain ⟨v1, v2, ev, hv1, hv2⟩ := hv
        subst ev
        obtain ⟨Ak, ck, ev⟩ := Kd.R_slice hv1
        subst ev
        obtain ⟨Aj, cj, ev⟩ := Kd.R_slice hv2
        subst ev
        have HOk := Aside0.mk (Kd.R_lower hv1 (show Below W0.heap.size W0 _ from (below_alloc HL.out _)).size)
        have HOj := Aside0.mk (Kd.R_lower hv2 (show Below W0.heap.size W0 _ from (below_alloc HL.out _)).size)
        clear hv1 hv2
        clear HL
        have HL := HLn; clear HLn
        have HKd := HKnd; clear HKnd
        clear hb
        have HIy := Aside0.mk (show W0.heap.size ≤ w15.heap.size from HL.out.size)
        go_wp2_with (first | (go_at_call 28; refine stop_ ?_) | (go_at_call 17; refine stop_ ?_) | (go_at_call 45; refine stop_ ?_) | (go_at_call 47; refine stop_ ?_) | (go_at_call 48; refine stop_ ?_) | (go_at_call 51; refine stop_ ?_) | (go_at_call 44; refine stop_ ?_) | (go_at_call 46; refine stop_ ?_) | (go_at_call 49; refine stop_ ?_) | (go_at_call 50; refine stop_ ?_) | (go_at_call 52; refine stop_ ?_) | (go_at_call 10; refine stop_ ?_) | (go_at_call 20; refine stop_ ?_) | (go_at_call 36; refine stop_ ?_))
        refine ⟨?_⟩
        refine Calls.mono (error_true (r := el) (e := codeE el) rfl _ (HG.out.below (below_alloc HL.out _))) ?_
        rintro e w16 ⟨rfl, hb⟩
        have HLn := Aside0.mk (below_step (show Below W0.heap.size W0 _ from (below_alloc HL.out _)) hb)
        have HOnk := Aside0.mk (Kd.R_below (Kd.R_alloc HOk.out _) hb)
        have HOnj := Aside0.mk (Kd.R_below (Kd.R_alloc HOj.out _) hb)
        have HKnd : Aside0 (w16.heap[w14.heap.size]? = some (.cells #[.slice At t.length ct, .slice Aa a.length ca] 48 (0, 0))) := ⟨blk_below (blk_alloc HKd.out _) hb⟩
        have HKny : Aside0 (w16.heap[w15.heap.size]? = some (.cells #[.slice Ak (t).length ck, .slice Aj (a).length cj] 48 (0, 0))) := ⟨blk_below (blk_new _ _) hb⟩
        clear HL HOk HOj HKd
        have HL := HLn; clear HLn
        have HOk := HOnk; clear HOnk
        have HOj := HOnj; clear HOnj
        have HKd := HKnd; clear HKnd
        have HKy := HKny; clear HKny
        clear hb
        have yy0 := ((blk_cell HKy.out 0).trans (show _ = some (.slice Ak (t).length ck) from rfl))
        have yy1 := ((blk_cell HKy.out 1).trans (show _ = some (.slice Aj (a).length cj) from rfl))
        have yd0 := ((blk_cell HKd.out 0).trans (show _ = some (.slice At t.length ct) from rfl))
        have yd1 := ((blk_cell HKd.out 1).trans (show _ = some (.slice Aa a.length ca) from rfl))
        go_wp2_with (first | (go_at_call 28; refine stop_ ?_) | (go_at_call 17; refine stop_ ?_) | (go_at_call 45; refine stop_ ?_) | (go_at_call 47; refine stop_ ?_) | (go_at_call 48; refine stop_ ?_) | (go_at_call 51; refine stop_ ?_) | (go_at_call 44; refine stop_ ?_) | (go_at_call 46; refine stop_ ?_) | (go_at_call 49; refine stop_ ?_) | (go_at_call 50; refine stop_ ?_) | (go_at_call 52; refine stop_ ?_) | (go_at_call 10; refine stop_ ?_) | (go_at_call 20; refine stop_ ?_) | (go_at_call 36; refine stop_ ?_))
        refine ⟨?_⟩
        clear yy0 yy1 yd0 yd1
        refine Calls.mono (sameL_true rfl rfl Ak ck Aj cj At ct Aa ca _ (Kd.R_reads' HOk.out).2.2 (Kd.R_reads' HOj.out).2.2 (Kd.C_below HRt.out HL.out) (Kd.C_below HRa.out HL.out)) ?_
        rintro e w17 ⟨rfl, hb⟩
        have HLn := Aside0.mk (below_step (show Below W0.heap.size W0 _ from HL.out) hb)
        have HOnk := Aside0.mk (Kd.R_below HOk.out hb)
        have HOnj := Aside0.mk (Kd.R_below HOj.out hb)
        have HKnd : Aside0 (w17.heap[w14.heap.size]? = some (.cells #[.slice At t.length ct, .slice Aa a.length ca] 48 (0, 0))) := ⟨blk_below HKd.out hb⟩
        have HKny : Aside0 (w17.heap[w15.heap.size]? = some (.cells #[.slice Ak (t).length ck, .slice Aj (a).length cj] 48 (0, 0))) := ⟨blk_below HKy.out hb⟩
        clear HL HOk HOj HKd HKy
        have HL := HLn; clear HLn
        have HOk := HOnk; clear HOnk
        have HOj := HOnj; clear HOnj
        have HKd := HKnd; clear HKnd
        have HKy := HKny; clear HKny
        clear hb
        clear HOk HOj HKd HKy
        have ym0 := ((Box.keep (Below.refl _ _) HL.out Bm.out) 0 (.slice Ab b.length cb) rfl)
        have ym1 := ((Box.keep (Below.refl _ _) HL.out Bm.out) 1 (.slice Au u.length cu) rfl)
        go_wp2_with (first | (go_at_call 28; refine stop_ ?_) | (go_at_call 17; refine stop_ ?_) | (go_at_call 45; refine stop_ ?_) | (go_at_call 47; refine stop_ ?_) | (go_at_call 48; refine stop_ ?_) | (go_at_call 51; refine stop_ ?_) | (go_at_call 44; refine stop_ ?_) | (go_at_call 46; refine stop_ ?_) | (go_at_call 49; refine stop_ ?_) | (go_at_call 50; refine stop_ ?_) | (go_at_call 52; refine stop_ ?_) | (go_at_call 10; refine stop_ ?_) | (go_at_call 20; refine stop_ ?_) | (go_at_call 36; refine stop_ ?_))
        refine ⟨?_⟩
        clear ym0 ym1
        refine Calls.mono (cRM.out _ (Kd.C_below HRb.out HL.out) (Kd.C_below HRu.out HL.out)) ?_
        rintro e w18 ⟨rfl, hb⟩
        have HLn := Aside0.mk (below_step (show Below W0.heap.size W0 _ from HL.out) hb)
        clear HL
        have HL := HLn; clear HLn
        clear hb
        by_cases qM : em = none
        · have tM := codeE_eq0 qM; have QM := Aside0.mk qM; clear qM
          have HIh := Aside0.mk (show W0.heap.size ≤ w18.heap.size from HL.out.size)
          have yol0 := fun (o : Obj) => cell?_alloc_old ((Box.keep (Below.refl _ _) HL.out Bl.out) 0 (.slice Aa a.length ca) rfl) o
          have yol1 := fun (o : Obj) => cell?_alloc_old ((Box.keep (Below.refl _ _) HL.out Bl.out) 1 (.slice At t.length ct) rfl) o
          have yom0 := fun (o : Obj) => cell?_alloc_old ((Box.keep (Below.refl _ _) HL.out Bm.out) 0 (.slice Ab b.length cb) rfl) o
          have yom1 := fun (o : Obj) => cell?_alloc_old ((Box.keep (Below.refl _ _) HL.out Bm.out) 1 (.slice Au u.length cu) rfl) o
          go_wp2_with (first | (go_at_call 28; refine stop_ ?_) | (go_at_call 17; refine stop_ ?_) | (go_at_call 45; refine stop_ ?_) | (go_at_call 47; refine stop_ ?_) | (go_at_call 48; refine stop_ ?_) | (go_at_call 51; refine stop_ ?_) | (go_at_call 44; refine stop_ ?_) | (go_at_call 46; refine stop_ ?_) | (go_at_call 49; refine stop_ ?_) | (go_at_call 50; refine stop_ ?_) | (go_at_call 52; refine stop_ ?_) | (go_at_call 10; refine stop_ ?_) | (go_at_call 20; refine stop_ ?_) | (go_at_call 36; refine stop_ ?_))
          refine ⟨?_⟩
          clear yol0 yol1 yom0 yom1
          refine Calls.mono (cRT.out (HEL.out.trans QL.out) (HEM.out.trans QM.out) _ (Kd.C_below HRa.out (below_alloc HL.out _)) (Kd.C_below HRt.out (below_alloc HL.out _)) (Kd.C_below HRb.out (below_alloc HL.out _)) (Kd.C_below HRu.out (below_alloc HL.out _))) ?_
          rintro e w19 ⟨v, rfl, hv, hb⟩
          have HLn := Aside0.mk (below_step (show Below W0.heap.size W0 _ from (below_alloc HL.out _)) hb)
          have HKnh : Aside0 (w19.heap[w18.heap.size]? = some (.cells #[.slice none 0 0, .slice none 0 0] 48 (0, 0))) := ⟨blk_below (blk_new _ _) hb⟩
          obtain ⟨v1, v2, ev, hv1, hv2⟩ := hv
          subst ev
          obtain ⟨Ae, ce, ev⟩ := Kd.R_slice hv1
          subst ev
          obtain ⟨Ai, ci, ev⟩ := Kd.R_slice hv2
          subst ev
          have HOe := Aside0.mk (Kd.R_lower hv1 (show Below W0.heap.size W0 _ from (below_alloc HL.out _)).size)
          have HOi := Aside0.mk (Kd.R_lower hv2 (show Below W0.heap.size W0 _ from (below_alloc HL.out _)).size)
          clear hv1 hv2
          clear HL
          have HL := HLn; clear HLn
          have HKh := HKnh; clear HKnh
          clear hb
          have yh0 := ((blk_cell HKh.out 0).trans (show _ = some (.slice none 0 0) from rfl))
          have yh1 := ((blk_cell HKh.out 1).trans (show _ = some (.slice none 0 0) from rfl))
          have yfh0 := blk_frozen HKh.out 0
          have yfh1 := blk_frozen HKh.out 1
          have yzl0 := fun (j : Nat) (u' : Value) (j2 : Nat) (u2 : Value) => (Box.keep (Below.refl _ _) (below_set (j := j2) (v := u2) (below_set (j := j) (v := u') HL.out HIh.out) HIh.out) Bl.out) 0 (.slice Aa a.length ca) rfl
          have yzl1 := fun (j : Nat) (u' : Value) (j2 : Nat) (u2 : Value) => (Box.keep (Below.refl _ _) (below_set (j := j2) (v := u2) (below_set (j := j) (v := u') HL.out HIh.out) HIh.out) Bl.out) 1 (.slice At t.length ct) rfl
          have yzm0 := fun (j : Nat) (u' : Value) (j2 : Nat) (u2 : Value) => (Box.keep (Below.refl _ _) (below_set (j := j2) (v := u2) (below_set (j := j) (v := u') HL.out HIh.out) HIh.out) Bm.out) 0 (.slice Ab b.length cb) rfl
          have yzm1 := fun (j : Nat) (u' : Value) (j2 : Nat) (u2 : Value) => (Box.keep (Below.refl _ _) (below_set (j := j2) (v := u2) (below_set (j := j) (v := u') HL.out HIh.out) HIh.out) Bm.out) 1 (.slice Au u.length cu) rfl
          go_wp2_with (first | (go_at_call 28; refine stop_ ?_) | (go_at_call 17; refine stop_ ?_) | (go_at_call 45; refine stop_ ?_) | (go_at_call 47; refine stop_ ?_) | (go_at_call 48; refine stop_ ?_) | (go_at_call 51; refine stop_ ?_) | (go_at_call 44; refine stop_ ?_) | (go_at_call 46; refine stop_ ?_) | (go_at_call 49; refine stop_ ?_) | (go_at_call 50; refine stop_ ?_) | (go_at_call 52; refine stop_ ?_) | (go_at_call 10; refine stop_ ?_) | (go_at_call 20; refine stop_ ?_) | (go_at_call 36; refine stop_ ?_))
          refine ⟨?_⟩
          clear yh0 yh1 yfh0 yfh1 yzl0 yzl1 yzm0 yzm1
          refine Calls.mono (cTH.out _ (Kd.C_below HRa.out (below_set (below_set HL.out HIh.out) HIh.out)) HCa.out (Kd.C_below HRt.out (below_set (below_set HL.out HIh.out) HIh.out)) HCt.out (Kd.C_below HRb.out (below_set (below_set HL.out HIh.out) HIh.out)) HCb.out (Kd.C_below HRu.out (below_set (below_set HL.out HIh.out) HIh.out)) HCu.out) ?_
          rintro e w20 ⟨v, rfl, hv, hb⟩
          have HLn := Aside0.mk (below_step (show Below W0.heap.size W0 _ from (below_set (below_set HL.out HIh.out) HIh.out)) hb)
          have HOne := Aside0.mk (Kd.R_below (Kd.R_set (Kd.R_set HOe.out HKh.out (by decide) 0 _) (blk_put HKh.out 0 _ rfl) (by decide) 1 _) hb)
          have HOni := Aside0.mk (Kd.R_below (Kd.R_set (Kd.R_set HOi.out HKh.out (by decide) 0 _) (blk_put HKh.out 0 _ rfl) (by decide) 1 _) hb)
          have HKnh : Aside0 (w20.heap[w18.heap.size]? = some (.cells #[.slice Ae r1.length ce, .slice Ai r2.length ci] 48 (0, 0))) := ⟨blk_below (blk_put (blk_put HKh.out 0 _ rfl) 1 _ rfl) hb⟩
          obtain ⟨v1, v2, ev, hv1, hv2⟩ := hv
          subst ev
          obtain ⟨Az, cz, ev⟩ := Kd.R_slice hv1
          subst ev
          obtain ⟨Av, cv, ev⟩ := Kd.R_slice hv2
          subst ev
          have HOz := Aside0.mk (Kd.R_lower hv1 (show Below W0.heap.size W0 _ from (below_set (below_set HL.out HIh.out) HIh.out)).size)
          have HOv := Aside0.mk (Kd.R_lower hv2 (show Below W0.heap.size W0 _ from (below_set (below_set HL.out HIh.out) HIh.out)).size)
          clear hv1 hv2
          clear HL HOe HOi HKh
          have HL := HLn; clear HLn
          have HOe := HOne; clear HOne
          have HOi := HOni; clear HOni
          have HKh := HKnh; clear HKnh
          clear hb
          have HIzz := Aside0.mk (show W0.heap.size ≤ w20.heap.size from HL.out.size)
          go_wp2_with (first | (go_at_call 28; refine stop_ ?_) | (go_at_call 17; refine stop_ ?_) | (go_at_call 45; refine stop_ ?_) | (go_at_call 47; refine stop_ ?_) | (go_at_call 48; refine stop_ ?_) | (go_at_call 51; refine stop_ ?_) | (go_at_call 44; refine stop_ ?_) | (go_at_call 46; refine stop_ ?_) | (go_at_call 49; refine stop_ ?_) | (go_at_call 50; refine stop_ ?_) | (go_at_call 52; refine stop_ ?_) | (go_at_call 10; refine stop_ ?_) | (go_at_call 20; refine stop_ ?_) | (go_at_call 36; refine stop_ ?_))
          refine ⟨?_⟩
          refine Calls.mono (error_true (r := er) (e := codeE er) rfl _ (HG.out.below (below_alloc HL.out _))) ?_
          rintro e w21 ⟨rfl, hb⟩
          have HLn := Aside0.mk (below_step (show Below W0.heap.size W0 _ from (below_alloc HL.out _)) hb)
          have HOne := Aside0.mk (Kd.R_below (Kd.R_alloc HOe.out _) hb)
          have HOni := Aside0.mk (Kd.R_below (Kd.R_alloc HOi.out _) hb)
          have HOnz := Aside0.mk (Kd.R_below (Kd.R_alloc HOz.out _) hb)
          have HOnv := Aside0.mk (Kd.R_below (Kd.R_alloc HOv.out _) hb)
          have HKnh : Aside0 (w21.heap[w18.heap.size]? = some (.cells #[.slice Ae r1.length ce, .slice Ai r2.length ci] 48 (0, 0))) := ⟨blk_below (blk_alloc HKh.out _) hb⟩
          have HKnzz : Aside0 (w21.heap[w20.heap.size]? = some (.cells #[.slice Az r1.length cz, .slice Av r2.length cv] 48 (0, 0))) := ⟨blk_below (blk_new _ _) hb⟩
          clear HL HOe HOi HOz HOv HKh
          have HL := HLn; clear HLn
          have HOe := HOne; clear HOne
          have HOi := HOni; clear HOni
          have HOz := HOnz; clear HOnz
          have HOv := HOnv; clear HOnv
          have HKh := HKnh; clear HKnh
          have HKzz := HKnzz; clear HKnzz
          clear hb
          have yzz0 := ((blk_cell HKzz.out 0).trans (show _ = some (.slice Az r1.length cz) from rfl))
          have yzz1 := ((blk_cell HKzz.out 1).trans (show _ = some (.slice Av r2.length cv) from rfl))
          have yh0 := ((blk_cell HKh.out 0).trans (show _ = some (.slice Ae r1.length ce) from rfl))
          have yh1 := ((blk_cell HKh.out 1).trans (show _ = some (.slice Ai r2.length ci) from rfl))
          go_wp2_with (first | (go_at_call 28; refine stop_ ?_) | (go_at_call 17; refine stop_ ?_) | (go_at_call 45; refine stop_ ?_) | (go_at_call 47; refine stop_ ?_) | (go_at_call 48; refine stop_ ?_) | (go_at_call 51; refine stop_ ?_) | (go_at_call 44; refine stop_ ?_) | (go_at_call 46; refine stop_ ?_) | (go_at_call 49; refine stop_ ?_) | (go_at_call 50; refine stop_ ?_) | (go_at_call 52; refine stop_ ?_) | (go_at_call 10; refine stop_ ?_) | (go_at_call 20; refine stop_ ?_) | (go_at_call 36; refine stop_ ?_))
          refine ⟨?_⟩
          clear yzz0 yzz1 yh0 yh1
          refine Calls.mono (sameL_true rfl rfl Az cz Av cv Ae ce Ai ci _ (Kd.R_reads' HOz.out).2.2 (Kd.R_reads' HOv.out).2.2 (Kd.R_reads' HOe.out).2.2 (Kd.R_reads' HOi.out).2.2) ?_
          rintro e w22 ⟨rfl, hb⟩
          have HLn := Aside0.mk (below_step (show Below W0.heap.size W0 _ from HL.out) hb)
          have HOne := Aside0.mk (Kd.R_below HOe.out hb)
          have HOni := Aside0.mk (Kd.R_below HOi.out hb)
          have HOnz := Aside0.mk (Kd.R_below HOz.out hb)
          have HOnv := Aside0.mk (Kd.R_below HOv.out hb)
          have HKnh : Aside0 (w22.heap[w18.heap.size]? = some (.cells #[.slice Ae r1.length ce, .slice Ai r2.length ci] 48 (0, 0))) := ⟨blk_below HKh.out hb⟩
          have HKnzz : Aside0 (w22.heap[w20.heap.size]? = some (.cells #[.slice Az r1.length cz, .slice Av r2.length cv] 48 (0, 0))) := ⟨blk_below HKzz.out hb⟩
          clear HL HOe HOi HOz HOv HKh HKzz
          have HL := HLn; clear HLn
          have HOe := HOne; clear HOne
          have HOi := HOni; clear HOni
          have HOz := HOnz; clear HOnz
          have HOv := HOnv; clear HOnv
          have HKh := HKnh; clear HKnh
          have HKzz := HKnzz; clear HKnzz
          clear hb
          go_wp2_with (first | (go_at_call 28; refine stop_ ?_) | (go_at_call 17; refine stop_ ?_) | (go_at_call 45; refine stop_ ?_) | (go_at_call 47; refine stop_ ?_) | (go_at_call 48; refine stop_ ?_) | (go_at_call 51; refine stop_ ?_) | (go_at_call 44; refine stop_ ?_) | (go_at_call 46; refine stop_ ?_) | (go_at_call 49; refine stop_ ?_) | (go_at_call 50; refine stop_ ?_) | (go_at_call 52; refine stop_ ?_) | (go_at_call 10; refine stop_ ?_) | (go_at_call 20; refine stop_ ?_) | (go_at_call 36; refine stop_ ?_))
          go_ret
          exact ⟨by first | rfl | (simp; done) | (simp [*]; done) | (simp; omega), below_step (show Below w.heap.size w W0 from HB0.out) ((show Below W0.heap.size W0 _ from HL.out))⟩
        · obtain ⟨nM, kM⟩ := Option.ne_none_iff_exists'.1 qM; have tM := codeE_ne0 kM (layErr_ne (HEM.out.trans kM)); have QM := Aside0.mk kM; clear qM kM
          have hbad := then_bad2 (HEL.out.trans QL.out) (HEM.out.trans QM.out); rw [HT.out] at hbad; have ER : Aside0 (er = em) := ⟨by rw [QM.out]; exact congrArg Prod.snd hbad⟩; have ER1 : Aside0 (r1 = []) := ⟨congrArg (fun z => z.1.1) hbad⟩; have ER2 : Aside0 (r2 = []) := ⟨congrArg (fun z => z.1.2) hbad⟩; clear hbad
          have HIh := Aside0.mk (show W0.heap.size ≤ w18.heap.size from HL.out.size)
          have yol0 := fun (o : Obj) => cell?_alloc_old ((Box.keep (Below.refl _ _) HL.out Bl.out) 0 (.slice Aa a.length ca) rfl) o
          have yol1 := fun (o : Obj) => cell?_alloc_old ((Box.keep (Below.refl _ _) HL.out Bl.out) 1 (.slice At t.length ct) rfl) o
          have yom0 := fun (o : Obj) => cell?_alloc_old ((Box.keep (Below.refl _ _) HL.out Bm.out) 0 (.slice Ab b.length cb) rfl) o
          have yom1 := fun (o : Obj) => cell?_alloc_old ((Box.keep (Below.refl _ _) HL.out Bm.out) 1 (.slice Au u.length cu) rfl) o
          go_wp2_with (first | (go_at_call 28; refine stop_ ?_) | (go_at_call 17; refine stop_ ?_) | (go_at_call 45; refine stop_ ?_) | (go_at_call 47; refine stop_ ?_) | (go_at_call 48; refine stop_ ?_) | (go_at_call 51; refine stop_ ?_) | (go_at_call 44; refine stop_ ?_) | (go_at_call 46; refine stop_ ?_) | (go_at_call 49; refine stop_ ?_) | (go_at_call 50; refine stop_ ?_) | (go_at_call 52; refine stop_ ?_) | (go_at_call 10; refine stop_ ?_) | (go_at_call 20; refine stop_ ?_) | (go_at_call 36; refine stop_ ?_))
          refine ⟨?_⟩
          clear yol0 yol1 yom0 yom1
          refine Calls.mono (cTH.out _ (Kd.C_below HRa.out (below_alloc HL.out _)) HCa.out (Kd.C_below HRt.out (below_alloc HL.out _)) HCt.out (Kd.C_below HRb.out (below_alloc HL.out _)) HCb.out (Kd.C_below HRu.out (below_alloc HL.out _)) HCu.out) ?_
          rintro e w23 ⟨v, rfl, hv, hb⟩
          have HLn := Aside0.mk (below_step (show Below W0.heap.size W0 _ from (below_alloc HL.out _)) hb)
          have HKnh : Aside0 (w23.heap[w18.heap.size]? = some (.cells #[.slice none 0 0, .slice none 0 0] 48 (0, 0))) := ⟨blk_below (blk_new _ _) hb⟩
          obtain ⟨v1, v2, ev, hv1, hv2⟩ := hv
          subst ev
          obtain ⟨Az, cz, ev⟩ := Kd.R_slice hv1
          subst ev
          obtain ⟨Av, cv, ev⟩ := Kd.R_slice hv2
          subst ev
          have HOz := Aside0.mk (Kd.R_lower hv1 (show Below W0.heap.size W0 _ from (below_alloc HL.out _)).size)
          have HOv := Aside0.mk (Kd.R_lower hv2 (show Below W0.heap.size W0 _ from (below_alloc HL.out _)).size)
          clear hv1 hv2
          clear HL
          have HL := HLn; clear HLn
          have HKh := HKnh; clear HKnh
          clear hb
          have HIzz := Aside0.mk (show W0.heap.size ≤ w23.heap.size from HL.out.size)
          go_wp2_with (first | (go_at_call 28; refine stop_ ?_) | (go_at_call 17; refine stop_ ?_) | (go_at_call 45; refine stop_ ?_) | (go_at_call 47; refine stop_ ?_) | (go_at_call 48; refine stop_ ?_) | (go_at_call 51; refine stop_ ?_) | (go_at_call 44; refine stop_ ?_) | (go_at_call 46; refine stop_ ?_) | (go_at_call 49; refine stop_ ?_) | (go_at_call 50; refine stop_ ?_) | (go_at_call 52; refine stop_ ?_) | (go_at_call 10; refine stop_ ?_) | (go_at_call 20; refine stop_ ?_) | (go_at_call 36; refine stop_ ?_))
          refine ⟨?_⟩
          refine Calls.mono (error_true (r := er) (e := codeE em) (congrArg codeE ER.out) _ (HG.out.below (below_alloc HL.out _))) ?_
          rintro e w24 ⟨rfl, hb⟩
          have HLn := Aside0.mk (below_step (show Below W0.heap.size W0 _ from (below_alloc HL.out _)) hb)
          have HOnz := Aside0.mk (Kd.R_below (Kd.R_alloc HOz.out _) hb)
          have HOnv := Aside0.mk (Kd.R_below (Kd.R_alloc HOv.out _) hb)
          have HKnh : Aside0 (w24.heap[w18.heap.size]? = some (.cells #[.slice none 0 0, .slice none 0 0] 48 (0, 0))) := ⟨blk_below (blk_alloc HKh.out _) hb⟩
          have HKnzz : Aside0 (w24.heap[w23.heap.size]? = some (.cells #[.slice Az r1.length cz, .slice Av r2.length cv] 48 (0, 0))) := ⟨blk_below (blk_new _ _) hb⟩
          clear HL HOz HOv HKh
          have HL := HLn; clear HLn
          have HOz := HOnz; clear HOnz
          have HOv := HOnv; clear HOnv
          have HKh := HKnh; clear HKnh
          have HKzz := HKnzz; clear HKnzz
          clear hb
          have yzz0 := ((blk_cell HKzz.out 0).trans (show _ = some (.slice Az r1.length cz) from rfl))
          have yzz1 := ((blk_cell HKzz.out 1).trans (show _ = some (.slice Av r2.length cv) from rfl))
          have yh0 := ((blk_cell HKh.out 0).trans (show _ = some (.slice none 0 0) from rfl))
          have yh1 := ((blk_cell HKh.out 1).trans (show _ = some (.slice none 0 0) from rfl))
          go_wp2_with (first | (go_at_call 28; refine stop_ ?_) | (go_at_call 17; refine stop_ ?_) | (go_at_call 45; refine stop_ ?_) | (go_at_call 47; refine stop_ ?_) | (go_at_call 48; refine stop_ ?_) | (go_at_call 51; refine stop_ ?_) | (go_at_call 44; refine stop_ ?_) | (go_at_call 46; refine stop_ ?_) | (go_at_call 49; refine stop_ ?_) | (go_at_call 50; refine stop_ ?_) | (go_at_call 52; refine stop_ ?_) | (go_at_call 10; refine stop_ ?_) | (go_at_call 20; refine stop_ ?_) | (go_at_call 36; refine stop_ ?_))
          refine ⟨?_⟩
          clear yzz0 yzz1 yh0 yh1
          refine Calls.mono (sameL_true ER1.out ER2.out Az cz Av cv none 0 none 0 _ (Kd.R_reads' HOz.out).2.2 (Kd.R_reads' HOv.out).2.2 (C_none _) (C_none _)) ?_
          rintro e w25 ⟨rfl, hb⟩
          have HLn := Aside0.mk (below_step (show Below W0.heap.size W0 _ from HL.out) hb)
          have HOnz := Aside0.mk (Kd.R_below HOz.out hb)
          have HOnv := Aside0.mk (Kd.R_below HOv.out hb)
          have HKnh : Aside0 (w25.heap[w18.heap.size]? = some (.cells #[.slice none 0 0, .slice none 0 0] 48 (0, 0))) := ⟨blk_below HKh.out hb⟩
          have HKnzz : Aside0 (w25.heap[w23.heap.size]? = some (.cells #[.slice Az r1.length cz, .slice Av r2.length cv] 48 (0, 0))) := ⟨blk_below HKzz.out hb⟩
          clear HL HOz HOv HKh HKzz
          have HL := HLn; clear HLn
          have HOz := HOnz; clear HOnz
          have HOv := HOnv; clear HOnv
          have HKh := HKnh; clear HKnh
          have HKzz := HKnzz; clear HKnzz
          clear hb
          go_wp2_with (first | (go_at_call 28; refine stop_ ?_) | (go_at_call 17; refine stop_ ?_) | (go_at_call 45; refine stop_ ?_) | (go_at_call 47; refine stop_ ?_) | (go_at_call 48; refine stop_ ?_) | (go_at_call 51; refine stop_ ?_) | (go_at_call 44; refine stop_ ?_) | (go_at_call 46; refine stop_ ?_) | (go_at_call 49; refine stop_ ?_) | (go_at_call 50; refine stop_ ?_) | (go_at_call 52; refine stop_ ?_) | (go_at_call 10; refine stop_ ?_) | (go_at_call 20; refine stop_ ?_) | (go_at_call 36; refine stop_ ?_))
          go_ret
          exact ⟨by first | rfl | (simp; done) | (simp [*]; done) | (simp; omega), below_step (show Below w.heap.size w W0 from HB0.out) ((show Below W0.heap.size W0 _ from HL.out))⟩
      · obtain ⟨n2, k2⟩ := Option.ne_none_iff_exists'.1 q2; have t2 := codeE_ne0 k2 (right2_ne (HE2.out.trans k2)); have Q2 := Aside0.mk k2; clear q2 k2
        have hbad := betw_bad (HE2.out.trans Q2.out); rw [HP.out] at hbad; have E2P : Aside0 (ep = e2) := ⟨by rw [Q2.out]; exact congrArg Prod.snd hbad⟩; have EP1 : Aside0 (p = []) := ⟨congrArg (fun z => z.1.1) hbad⟩; have EP2 : Aside0 (q = []) := ⟨congrArg (fun z => z.1.2) hbad⟩; clear hbad
        have HIn := Aside0.mk (show W0.heap.size ≤ w9.heap.size from HL.out.size)
        go_wp2_with (first | (go_at_call 28; refine stop_ ?_) | (go_at_call 17; refine stop_ ?_) | (go_at_call 45; refine stop_ ?_) | (go_at_call 47; refine stop_ ?_) | (go_at_call 48; refine stop_ ?_) | (go_at_call 51; refine stop_ ?_) | (go_at_call 44; refine stop_ ?_) | (go_at_call 46; refine stop_ ?_) | (go_at_call 49; refine stop_ ?_) | (go_at_call 50; refine stop_ ?_) | (go_at_call 52; refine stop_ ?_) | (go_at_call 10; refine stop_ ?_) | (go_at_call 20; refine stop_ ?_) | (go_at_call 36; refine stop_ ?_))
        refine ⟨?_⟩
        refine Calls.mono (cBT.out _ (Kd.C_below HRs.out (below_alloc HL.out _)) HCs.out (Kd.C_below HRo.out (below_alloc HL.out _)) HCo.out) ?_
        rintro e w26 ⟨v, rfl, hv, hb⟩
        have HLn := Aside0.mk (below_step (show Below W0.heap.size W0 _ from (below_alloc HL.out _)) hb)
        have HKnn : Aside0 (w26.heap[w9.heap.size]? = some (.cells #[.slice none 0 0, .slice none 0 0] 48 (0, 0))) := ⟨blk_below (blk_new _ _) hb⟩
        obtain ⟨v1, v2, ev, hv1, hv2⟩ := hv
        subst ev
        obtain ⟨Ap, cp, ev⟩ := Kd.R_slice hv1
        subst ev
        obtain ⟨Aq, cq, ev⟩ := Kd.R_slice hv2
        subst ev
        have HOp := Aside0.mk (Kd.R_lower hv1 (show Below W0.heap.size W0 _ from (below_alloc HL.out _)).size)
        have HOq := Aside0.mk (Kd.R_lower hv2 (show Below W0.heap.size W0 _ from (below_alloc HL.out _)).size)
        clear hv1 hv2
        clear HL
        have HL := HLn; clear HLn
        have HKn := HKnn; clear HKnn
        clear hb
        have HIx := Aside0.mk (show W0.heap.size ≤ w26.heap.size from HL.out.size)
        go_wp2_with (first | (go_at_call 28; refine stop_ ?_) | (go_at_call 17; refine stop_ ?_) | (go_at_call 45; refine stop_ ?_) | (go_at_call 47; refine stop_ ?_) | (go_at_call 48; refine stop_ ?_) | (go_at_call 51; refine stop_ ?_) | (go_at_call 44; refine stop_ ?_) | (go_at_call 46; refine stop_ ?_) | (go_at_call 49; refine stop_ ?_) | (go_at_call 50; refine stop_ ?_) | (go_at_call 52; refine stop_ ?_) | (go_at_call 10; refine stop_ ?_) | (go_at_call 20; refine stop_ ?_) | (go_at_call 36; refine stop_ ?_))
        refine ⟨?_⟩
        refine Calls.mono (error_true (r := ep) (e := codeE e2) (congrArg codeE E2P.out) _ (HG.out.below (below_alloc HL.out _))) ?_
        rintro e w27 ⟨rfl, hb⟩
        have HLn := Aside0.mk (below_step (show Below W0.heap.size W0 _ from (below_alloc HL.out _)) hb)
        have HOnp := Aside0.mk (Kd.R_below (Kd.R_alloc HOp.out _) hb)
        have HOnq := Aside0.mk (Kd.R_below (Kd.R_alloc HOq.out _) hb)
        have HKnn : Aside0 (w27.heap[w9.heap.size]? = some (.cells #[.slice none 0 0, .slice none 0 0] 48 (0, 0))) := ⟨blk_below (blk_alloc HKn.out _) hb⟩
        have HKnx : Aside0 (w27.heap[w26.heap.size]? = some (.cells #[.slice Ap p.length cp, .slice Aq q.length cq] 48 (0, 0))) := ⟨blk_below (blk_new _ _) hb⟩
        clear HL HOp HOq HKn
        have HL := HLn; clear HLn
        have HOp := HOnp; clear HOnp
        have HOq := HOnq; clear HOnq
        have HKn := HKnn; clear HKnn
        have HKx := HKnx; clear HKnx
        clear hb
        have yx0 := ((blk_cell HKx.out 0).trans (show _ = some (.slice Ap p.length cp) from rfl))
        have yx1 := ((blk_cell HKx.out 1).trans (show _ = some (.slice Aq q.length cq) from rfl))
        have yn0 := ((blk_cell HKn.out 0).trans (show _ = some (.slice none 0 0) from rfl))
        have yn1 := ((blk_cell HKn.out 1).trans (show _ = some (.slice none 0 0) from rfl))
        go_wp2_with (first | (go_at_call 28; refine stop_ ?_) | (go_at_call 17; refine stop_ ?_) | (go_at_call 45; refine stop_ ?_) | (go_at_call 47; refine stop_ ?_) | (go_at_call 48; refine stop_ ?_) | (go_at_call 51; refine stop_ ?_) | (go_at_call 44; refine stop_ ?_) | (go_at_call 46; refine stop_ ?_) | (go_at_call 49; refine stop_ ?_) | (go_at_call 50; refine stop_ ?_) | (go_at_call 52; refine stop_ ?_) | (go_at_call 10; refine stop_ ?_) | (go_at_call 20; refine stop_ ?_) | (go_at_call 36; refine stop_ ?_))
        refine ⟨?_⟩
        clear yx0 yx1 yn0 yn1
        refine Calls.mono (sameL_true EP1.out EP2.out Ap cp Aq cq none 0 none 0 _ (Kd.R_reads' HOp.out).2.2 (Kd.R_reads' HOq.out).2.2 (C_none _) (C_none _)) ?_
        rintro e w28 ⟨rfl, hb⟩
        have HLn := Aside0.mk (below_step (show Below W0.heap.size W0 _ from HL.out) hb)
        have HOnp := Aside0.mk (Kd.R_below HOp.out hb)
        have HOnq := Aside0.mk (Kd.R_below HOq.out hb)
        have HKnn : Aside0 (w28.heap[w9.heap.size]? = some (.cells #[.slice none 0 0, .slice none 0 0] 48 (0, 0))) := ⟨blk_below HKn.out hb⟩
        have HKnx : Aside0 (w28.heap[w26.heap.size]? = some (.cells #[.slice Ap p.length cp, .slice Aq q.length cq] 48 (0, 0))) := ⟨blk_below HKx.out hb⟩
        clear HL HOp HOq HKn HKx
        have HL := HLn; clear HLn
        have HOp := HOnp; clear HOnp
        have HOq := HOnq; clear HOnq
        have HKn := HKnn; clear HKnn
        have HKx := HKnx; clear HKnx
        clear hb
        clear HOp HOq
        clear HKn
        clear HKx
        have HId := Aside0.mk (show W0.heap.size ≤ w28.heap.size from HL.out.size)
        have yol0 := fun (o : Obj) => cell?_alloc_old ((Box.keep (Below.refl _ _) HL.out Bl.out) 0 (.slice Aa a.length ca) rfl) o
        have yol1 := fun (o : Obj) => cell?_alloc_old ((Box.keep (Below.refl _ _) HL.out Bl.out) 1 (.slice At t.length ct) rfl) o
        go_wp2_with (first | (go_at_call 28; refine stop_ ?_) | (go_at_call 17; refine stop_ ?_) | (go_at_call 45; refine stop_ ?_) | (go_at_call 47; refine stop_ ?_) | (go_at_call 48; refine stop_ ?_) | (go_at_call 51; refine stop_ ?_) | (go_at_call 44; refine stop_ ?_) | (go_at_call 46; refine stop_ ?_) | (go_at_call 49; refine stop_ ?_) | (go_at_call 50; refine stop_ ?_) | (go_at_call 52; refine stop_ ?_) | (go_at_call 10; refine stop_ ?_) | (go_at_call 20; refine stop_ ?_) | (go_at_call 36; refine stop_ ?_))
        refine ⟨?_⟩
        clear yol0 yol1
        refine Calls.mono (cTN.out _ (Kd.C_below HRa.out (below_alloc HL.out _)) HCa.out (Kd.C_below HRt.out (below_alloc HL.out _)) HCt.out) ?_
        rintro e w29 ⟨v, rfl, hv, hb⟩
        have HLn := Aside0.mk (below_step (show Below W0.heap.size W0 _ from (below_alloc HL.out _)) hb)
        have HKnd : Aside0 (w29.heap[w28.heap.size]? = some (.cells #[.slice At t.length ct, .slice Aa a.length ca] 48 (0, 0))) := ⟨blk_below (blk_new _ _) hb⟩
        rw [if_pos QL.out, if_pos QL.out] at hv
        obtain ⟨v1, v2, ev, hv1, hv2⟩ := hv
        subst ev
        obtain ⟨Ak, ck, ev⟩ := Kd.R_slice hv1
        subst ev
        obtain ⟨Aj, cj, ev⟩ := Kd.R_slice hv2
        subst ev
        have HOk := Aside0.mk (Kd.R_lower hv1 (show Below W0.heap.size W0 _ from (below_alloc HL.out _)).size)
        have HOj := Aside0.mk (Kd.R_lower hv2 (show Below W0.heap.size W0 _ from (below_alloc HL.out _)).size)
        clear hv1 hv2
        clear HL
        have HL := HLn; clear HLn
        have HKd := HKnd; clear HKnd
        clear hb
        have HIy := Aside0.mk (show W0.heap.size ≤ w29.heap.size from HL.out.size)
        go_wp2_with (first | (go_at_call 28; refine stop_ ?_) | (go_at_call 17; refine stop_ ?_) | (go_at_call 45; refine stop_ ?_) | (go_at_call 47; refine stop_ ?_) | (go_at_call 48; refine stop_ ?_) | (go_at_call 51; refine stop_ ?_) | (go_at_call 44; refine stop_ ?_) | (go_at_call 46; refine stop_ ?_) | (go_at_call 49; refine stop_ ?_) | (go_at_call 50; refine stop_ ?_) | (go_at_call 52; refine stop_ ?_) | (go_at_call 10; refine stop_ ?_) | (go_at_call 20; refine stop_ ?_) | (go_at_call 36; refine stop_ ?_))
        refine ⟨?_⟩
        refine Calls.mono (error_true (r := el) (e := codeE el) rfl _ (HG.out.below (below_alloc HL.out _))) ?_
        rintro e w30 ⟨rfl, hb⟩
        have HLn := Aside0.mk (below_step (show Below W0.heap.size W0 _ from (below_alloc HL.out _)) hb)
        have HOnk := Aside0.mk (Kd.R_below (Kd.R_alloc HOk.out _) hb)
        have HOnj := Aside0.mk (Kd.R_below (Kd.R_alloc HOj.out _) hb)
        have HKnd : Aside0 (w30.heap[w28.heap.size]? = some (.cells #[.slice At t.length ct, .slice Aa a.length ca] 48 (0, 0))) := ⟨blk_below (blk_alloc HKd.out _) hb⟩
        have HKny : Aside0 (w30.heap[w29.heap.size]? = some (.cells #[.slice Ak (t).length ck, .slice Aj (a).length cj] 48 (0, 0))) := ⟨blk_below (blk_new _ _) hb⟩
        clear HL HOk HOj HKd
        have HL := HLn; clear HLn
        have HOk := HOnk; clear HOnk
        have HOj := HOnj; clear HOnj
        have HKd := HKnd; clear HKnd
        have HKy := HKny; clear HKny
        clear hb
        have yy0 := ((blk_cell HKy.out 0).trans (show _ = some (.slice Ak (t).length ck) from rfl))
        have yy1 := ((blk_cell HKy.out 1).trans (show _ = some (.slice Aj (a).length cj) from rfl))
        have yd0 := ((blk_cell HKd.out 0).trans (show _ = some (.slice At t.length ct) from rfl))
        have yd1 := ((blk_cell HKd.out 1).trans (show _ = some (.slice Aa a.length ca) from rfl))
        go_wp2_with (first | (go_at_call 28; refine stop_ ?_) | (go_at_call 17; refine stop_ ?_) | (go_at_call 45; refine stop_ ?_) | (go_at_call 47; refine stop_ ?_) | (go_at_call 48; refine stop_ ?_) | (go_at_call 51; refine stop_ ?_) | (go_at_call 44; refine stop_ ?_) | (go_at_call 46; refine stop_ ?_) | (go_at_call 49; refine stop_ ?_) | (go_at_call 50; refine stop_ ?_) | (go_at_call 52; refine stop_ ?_) | (go_at_call 10; refine stop_ ?_) | (go_at_call 20; refine stop_ ?_) | (go_at_call 36; refine stop_ ?_))
        refine ⟨?_⟩
        clear yy0 yy1 yd0 yd1
        refine Calls.mono (sameL_true rfl rfl Ak ck Aj cj At ct Aa ca _ (Kd.R_reads' HOk.out).2.2 (Kd.R_reads' HOj.out).2.2 (Kd.C_below HRt.out HL.out) (Kd.C_below HRa.out HL.out)) ?_
        rintro e w31 ⟨rfl, hb⟩
        have HLn := Aside0.mk (below_step (show Below W0.heap.size W0 _ from HL.out) hb)
        have HOnk := Aside0.mk (Kd.R_below HOk.out hb)
        have HOnj := Aside0.mk (Kd.R_below HOj.out hb)
        have HKnd : Aside0 (w31.heap[w28.heap.size]? = some (.cells #[.slice At t.length ct, .slice Aa a.length ca] 48 (0, 0))) := ⟨blk_below HKd.out hb⟩
        have HKny : Aside0 (w31.heap[w29.heap.size]? = some (.cells #[.slice Ak (t).length ck, .slice Aj (a).length cj] 48 (0, 0))) := ⟨blk_below HKy.out hb⟩
        clear HL HOk HOj HKd HKy
        have HL := HLn; clear HLn
        have HOk := HOnk; clear HOnk
        have HOj := HOnj; clear HOnj
        have HKd := HKnd; clear HKnd
        have HKy := HKny; clear HKny
        clear hb
        clear HOk HOj HKd HKy
        have ym0 := ((Box.keep (Below.refl _ _) HL.out Bm.out) 0 (.slice Ab b.length cb) rfl)
        have ym1 := ((Box.keep (Below.refl _ _) HL.out Bm.out) 1 (.slice Au u.length cu) rfl)
        go_wp2_with (first | (go_at_call 28; refine stop_ ?_) | (go_at_call 17; refine stop_ ?_) | (go_at_call 45; refine stop_ ?_) | (go_at_call 47; refine stop_ ?_) | (go_at_call 48; refine stop_ ?_) | (go_at_call 51; refine stop_ ?_) | (go_at_call 44; refine stop_ ?_) | (go_at_call 46; refine stop_ ?_) | (go_at_call 49; refine stop_ ?_) | (go_at_call 50; refine stop_ ?_) | (go_at_call 52; refine stop_ ?_) | (go_at_call 10; refine stop_ ?_) | (go_at_call 20; refine stop_ ?_) | (go_at_call 36; refine stop_ ?_))
        refine ⟨?_⟩
        clear ym0 ym1
        refine Calls.mono (cRM.out _ (Kd.C_below HRb.out HL.out) (Kd.C_below HRu.out HL.out)) ?_
        rintro e w32 ⟨rfl, hb⟩
        have HLn := Aside0.mk (below_step (show Below W0.heap.size W0 _ from HL.out) hb)
        clear HL
        have HL := HLn; clear HLn
        clear hb
        by_cases qM : em = none
        · have tM := codeE_eq0 qM; have QM := Aside0.mk qM; clear qM
          have HIh := Aside0.mk (show W0.heap.size ≤ w32.heap.size from HL.out.size)
          have yol0 := fun (o : Obj) => cell?_alloc_old ((Box.keep (Below.refl _ _) HL.out Bl.out) 0 (.slice Aa a.length ca) rfl) o
          have yol1 := fun (o : Obj) => cell?_alloc_old ((Box.keep (Below.refl _ _) HL.out Bl.out) 1 (.slice At t.length ct) rfl) o
          have yom0 := fun (o : Obj) => cell?_alloc_old ((Box.keep (Below.refl _ _) HL.out Bm.out) 0 (.slice Ab b.length cb) rfl) o
          have yom1 := fun (o : Obj) => cell?_alloc_old ((Box.keep (Below.refl _ _) HL.out Bm.out) 1 (.slice Au u.length cu) rfl) o
          go_wp2_with (first | (go_at_call 28; refine stop_ ?_) | (go_at_call 17; refine stop_ ?_) | (go_at_call 45; refine stop_ ?_) | (go_at_call 47; refine stop_ ?_) | (go_at_call 48; refine stop_ ?_) | (go_at_call 51; refine stop_ ?_) | (go_at_call 44; refine stop_ ?_) | (go_at_call 46; refine stop_ ?_) | (go_at_call 49; refine stop_ ?_) | (go_at_call 50; refine stop_ ?_) | (go_at_call 52; refine stop_ ?_) | (go_at_call 10; refine stop_ ?_) | (go_at_call 20; refine stop_ ?_) | (go_at_call 36; refine stop_ ?_))
          refine ⟨?_⟩
          clear yol0 yol1 yom0 yom1
          refine Calls.mono (cRT.out (HEL.out.trans QL.out) (HEM.out.trans QM.out) _ (Kd.C_below HRa.out (below_alloc HL.out _)) (Kd.C_below HRt.out (below_alloc HL.out _)) (Kd.C_below HRb.out (below_alloc HL.out _)) (Kd.C_below HRu.out (below_alloc HL.out _))) ?_
          rintro e w33 ⟨v, rfl, hv, hb⟩
          have HLn := Aside0.mk (below_step (show Below W0.heap.size W0 _ from (below_alloc HL.out _)) hb)
          have HKnh : Aside0 (w33.heap[w32.heap.size]? = some (.cells #[.slice none 0 0, .slice none 0 0] 48 (0, 0))) := ⟨blk_below (blk_new _ _) hb⟩
          obtain ⟨v1, v2, ev, hv1, hv2⟩ := hv
          subst ev
          obtain ⟨Ae, ce, ev⟩ := Kd.R_slice hv1
          subst ev
          obtain ⟨Ai, ci, ev⟩ := Kd.R_slice hv2
          subst ev
          have HOe := Aside0.mk (Kd.R_lower hv1 (show Below W0.heap.size W0 _ from (below_alloc HL.out _)).size)
          have HOi := Aside0.mk (Kd.R_lower hv2 (show Below W0.heap.size W0 _ from (below_alloc HL.out _)).size)
          clear hv1 hv2
          clear HL
          have HL := HLn; clear HLn
          have HKh := HKnh; clear HKnh
          clear hb
          have yh0 := ((blk_cell HKh.out 0).trans (show _ = some (.slice none 0 0) from rfl))
          have yh1 := ((blk_cell HKh.out 1).trans (show _ = some (.slice none 0 0) from rfl))
          have yfh0 := blk_frozen HKh.out 0
          have yfh1 := blk_frozen HKh.out 1
          have yzl0 := fun (j : Nat) (u' : Value) (j2 : Nat) (u2 : Value) => (Box.keep (Below.refl _ _) (below_set (j := j2) (v := u2) (below_set (j := j) (v := u') HL.out HIh.out) HIh.out) Bl.out) 0 (.slice Aa a.length ca) rfl
          have yzl1 := fun (j : Nat) (u' : Value) (j2 : Nat) (u2 : Value) => (Box.keep (Below.refl _ _) (below_set (j := j2) (v := u2) (below_set (j := j) (v := u') HL.out HIh.out) HIh.out) Bl.out) 1 (.slice At t.length ct) rfl
          have yzm0 := fun (j : Nat) (u' : Value) (j2 : Nat) (u2 : Value) => (Box.keep (Below.refl _ _) (below_set (j := j2) (v := u2) (below_set (j := j) (v := u') HL.out HIh.out) HIh.out) Bm.out) 0 (.slice Ab b.length cb) rfl
          have yzm1 := fun (j : Nat) (u' : Value) (j2 : Nat) (u2 : Value) => (Box.keep (Below.refl _ _) (below_set (j := j2) (v := u2) (below_set (j := j) (v := u') HL.out HIh.out) HIh.out) Bm.out) 1 (.slice Au u.length cu) rfl
          go_wp2_with (first | (go_at_call 28; refine stop_ ?_) | (go_at_call 17; refine stop_ ?_) | (go_at_call 45; refine stop_ ?_) | (go_at_call 47; refine stop_ ?_) | (go_at_call 48; refine stop_ ?_) | (go_at_call 51; refine stop_ ?_) | (go_at_call 44; refine stop_ ?_) | (go_at_call 46; refine stop_ ?_) | (go_at_call 49; refine stop_ ?_) | (go_at_call 50; refine stop_ ?_) | (go_at_call 52; refine stop_ ?_) | (go_at_call 10; refine stop_ ?_) | (go_at_call 20; refine stop_ ?_) | (go_at_call 36; refine stop_ ?_))
          refine ⟨?_⟩
          clear yh0 yh1 yfh0 yfh1 yzl0 yzl1 yzm0 yzm1
          refine Calls.mono (cTH.out _ (Kd.C_below HRa.out (below_set (below_set HL.out HIh.out) HIh.out)) HCa.out (Kd.C_below HRt.out (below_set (below_set HL.out HIh.out) HIh.out)) HCt.out (Kd.C_below HRb.out (below_set (below_set HL.out HIh.out) HIh.out)) HCb.out (Kd.C_below HRu.out (below_set (below_set HL.out HIh.out) HIh.out)) HCu.out) ?_
          rintro e w34 ⟨v, rfl, hv, hb⟩
          have HLn := Aside0.mk (below_step (show Below W0.heap.size W0 _ from (below_set (below_set HL.out HIh.out) HIh.out)) hb)
          have HOne := Aside0.mk (Kd.R_below (Kd.R_set (Kd.R_set HOe.out HKh.out (by decide) 0 _) (blk_put HKh.out 0 _ rfl) (by decide) 1 _) hb)
          have HOni := Aside0.mk (Kd.R_below (Kd.R_set (Kd.R_set HOi.out HKh.out (by decide) 0 _) (blk_put HKh.out 0 _ rfl) (by decide) 1 _) hb)
          have HKnh : Aside0 (w34.heap[w32.heap.size]? = some (.cells #[.slice Ae r1.length ce, .slice Ai r2.length ci] 48 (0, 0))) := ⟨blk_below (blk_put (blk_put HKh.out 0 _ rfl) 1 _ rfl) hb⟩
          obtain ⟨v1, v2, ev, hv1, hv2⟩ := hv
          subst ev
          obtain ⟨Az, cz, ev⟩ := Kd.R_slice hv1
          subst ev
          obtain ⟨Av, cv, ev⟩ := Kd.R_slice hv2
          subst ev
          have HOz := Aside0.mk (Kd.R_lower hv1 (show Below W0.heap.size W0 _ from (below_set (below_set HL.out HIh.out) HIh.out)).size)
          have HOv := Aside0.mk (Kd.R_lower hv2 (show Below W0.heap.size W0 _ from (below_set (below_set HL.out HIh.out) HIh.out)).size)
          clear hv1 hv2
          clear HL HOe HOi HKh
          have HL := HLn; clear HLn
          have HOe := HOne; clear HOne
          have HOi := HOni; clear HOni
          have HKh := HKnh; clear HKnh
          clear hb
          have HIzz := Aside0.mk (show W0.heap.size ≤ w34.heap.size from HL.out.size)
          go_wp2_with (first | (go_at_call 28; refine stop_ ?_) | (go_at_call 17; refine stop_ ?_) | (go_at_call 45; refine stop_ ?_) | (go_at_call 47; refine stop_ ?_) | (go_at_call 48; refine stop_ ?_) | (go_at_call 51; refine stop_ ?_) | (go_at_call 44; refine stop_ ?_) | (go_at_call 46; refine stop_ ?_) | (go_at_call 49; refine stop_ ?_) | (go_at_call 50; refine stop_ ?_) | (go_at_call 52; refine stop_ ?_) | (go_at_call 10; refine stop_ ?_) | (go_at_call 20; refine stop_ ?_) | (go_at_call 36; refine stop_ ?_))
          refine ⟨?_⟩
          refine Calls.mono (error_true (r := er) (e := codeE er) rfl _ (HG.out.below (below_alloc HL.out _))) ?_
          rintro e w35 ⟨rfl, hb⟩
          have HLn := Aside0.mk (below_step (show Below W0.heap.size W0 _ from (below_alloc HL.out _)) hb)
          have HOne := Aside0.mk (Kd.R_below (Kd.R_alloc HOe.out _) hb)
          have HOni := Aside0.mk (Kd.R_below (Kd.R_alloc HOi.out _) hb)
          have HOnz := Aside0.mk (Kd.R_below (Kd.R_alloc HOz.out _) hb)
          have HOnv := Aside0.mk (Kd.R_below (Kd.R_alloc HOv.out _) hb)
          have HKnh : Aside0 (w35.heap[w32.heap.size]? = some (.cells #[.slice Ae r1.length ce, .slice Ai r2.length ci] 48 (0, 0))) := ⟨blk_below (blk_alloc HKh.out _) hb⟩
          have HKnzz : Aside0 (w35.heap[w34.heap.size]? = some (.cells #[.slice Az r1.length cz, .slice Av r2.length cv] 48 (0, 0))) := ⟨blk_below (blk_new _ _) hb⟩
          clear HL HOe HOi HOz HOv HKh
          have HL := HLn; clear HLn
          have HOe := HOne; clear HOne
          have HOi := HOni; clear HOni
          have HOz := HOnz; clear HOnz
          have HOv := HOnv; clear HOnv
          have HKh := HKnh; clear HKnh
          have HKzz := HKnzz; clear HKnzz
          clear hb
          have yzz0 := ((blk_cell HKzz.out 0).trans (show _ = some (.slice Az r1.length cz) from rfl))
          have yzz1 := ((blk_cell HKzz.out 1).trans (show _ = some (.slice Av r2.length cv) from rfl))
          have yh0 := ((blk_cell HKh.out 0).trans (show _ = some (.slice Ae r1.length ce) from rfl))
          have yh1 := ((blk_cell HKh.out 1).trans (show _ = some (.slice Ai r2.length ci) from rfl))
          go_wp2_with (first | (go_at_call 28; refine stop_ ?_) | (go_at_call 17; refine stop_ ?_) | (go_at_call 45; refine stop_ ?_) | (go_at_call 47; refine stop_ ?_) | (go_at_call 48; refine stop_ ?_) | (go_at_call 51; refine stop_ ?_) | (go_at_call 44; refine stop_ ?_) | (go_at_call 46; refine stop_ ?_) | (go_at_call 49; refine stop_ ?_) | (go_at_call 50; refine stop_ ?_) | (go_at_call 52; refine stop_ ?_) | (go_at_call 10; refine stop_ ?_) | (go_at_call 20; refine stop_ ?_) | (go_at_call 36; refine stop_ ?_))
          refine ⟨?_⟩
          clear yzz0 yzz1 yh0 yh1
          refine Calls.mono (sameL_true rfl rfl Az cz Av cv Ae ce Ai ci _ (Kd.R_reads' HOz.out).2.2 (Kd.R_reads' HOv.out).2.2 (Kd.R_reads' HOe.out).2.2 (Kd.R_reads' HOi.out).2.2) ?_
          rintro e w36 ⟨rfl, hb⟩
          have HLn := Aside0.mk (below_step (show Below W0.heap.size W0 _ from HL.out) hb)
          have HOne := Aside0.mk (Kd.R_below HOe.out hb)
          have HOni := Aside0.mk (Kd.R_below HOi.out hb)
          have HOnz := Aside0.mk (Kd.R_below HOz.out hb)
          have HOnv := Aside0.mk (Kd.R_below HOv.out hb)
          have HKnh : Aside0 (w36.heap[w32.heap.size]? = some (.cells #[.slice Ae r1.length ce, .slice Ai r2.length ci] 48 (0, 0))) := ⟨blk_below HKh.out hb⟩
          have HKnzz : Aside0 (w36.heap[w34.heap.size]? = some (.cells #[.slice Az r1.length cz, .slice Av r2.length cv] 48 (0, 0))) := ⟨blk_below HKzz.out hb⟩
          clear HL HOe HOi HOz HOv HKh HKzz
          have HL := HLn; clear HLn
          have HOe := HOne; clear HOne
          have HOi := HOni; clear HOni
          have HOz := HOnz; clear HOnz
          have HOv := HOnv; clear HOnv
          have HKh := HKnh; clear HKnh
          have HKzz := HKnzz; clear HKnzz
          clear hb
          go_wp2_with (first | (go_at_call 28; refine stop_ ?_) | (go_at_call 17; refine stop_ ?_) | (go_at_call 45; refine stop_ ?_) | (go_at_call 47; refine stop_ ?_) | (go_at_call 48; refine stop_ ?_) | (go_at_call 51; refine stop_ ?_) | (go_at_call 44; refine stop_ ?_) | (go_at_call 46; refine stop_ ?_) | (go_at_call 49; refine stop_ ?_) | (go_at_call 50; refine stop_ ?_) | (go_at_call 52; refine stop_ ?_) | (go_at_call 10; refine stop_ ?_) | (go_at_call 20; refine stop_ ?_) | (go_at_call 36; refine stop_ ?_))
          go_ret
          exact ⟨by first | rfl | (simp; done) | (simp [*]; done) | (simp; omega), below_step (show Below w.heap.size w W0 from HB0.out) ((show Below W0.heap.size W0 _ from HL.out))⟩
        · obtain ⟨nM, kM⟩ := Option.ne_none_iff_exists'.1 qM; have tM := codeE_ne0 kM (layErr_ne (HEM.out.trans kM)); have QM := Aside0.mk kM; clear qM kM
          have hbad := then_bad2 (HEL.out.trans QL.out) (HEM.out.trans QM.out); rw [HT.out] at hbad; have ER : Aside0 (er = em) := ⟨by rw [QM.out]; exact congrArg Prod.snd hbad⟩; have ER1 : Aside0 (r1 = []) := ⟨congrArg (fun z => z.1.1) hbad⟩; have ER2 : Aside0 (r2 = []) := ⟨congrArg (fun z => z.1.2) hbad⟩; clear hbad
          have HIh := Aside0.mk (show W0.heap.size ≤ w32.heap.size from HL.out.size)
          have yol0 := fun (o : Obj) => cell?_alloc_old ((Box.keep (Below.refl _ _) HL.out Bl.out) 0 (.slice Aa a.length ca) rfl) o
          have yol1 := fun (o : Obj) => cell?_alloc_old ((Box.keep (Below.refl _ _) HL.out Bl.out) 1 (.slice At t.length ct) rfl) o
          have yom0 := fun (o : Obj) => cell?_alloc_old ((Box.keep (Below.refl _ _) HL.out Bm.out) 0 (.slice Ab b.length cb) rfl) o
          have yom1 := fun (o : Obj) => cell?_alloc_old ((Box.keep (Below.refl _ _) HL.out Bm.out) 1 (.slice Au u.length cu) rfl) o
          go_wp2_with (first | (go_at_call 28; refine stop_ ?_) | (go_at_call 17; refine stop_ ?_) | (go_at_call 45; refine stop_ ?_) | (go_at_call 47; refine stop_ ?_) | (go_at_call 48; refine stop_ ?_) | (go_at_call 51; refine stop_ ?_) | (go_at_call 44; refine stop_ ?_) | (go_at_call 46; refine stop_ ?_) | (go_at_call 49; refine stop_ ?_) | (go_at_call 50; refine stop_ ?_) | (go_at_call 52; refine stop_ ?_) | (go_at_call 10; refine stop_ ?_) | (go_at_call 20; refine stop_ ?_) | (go_at_call 36; refine stop_ ?_))
          refine ⟨?_⟩
          clear yol0 yol1 yom0 yom1
          refine Calls.mono (cTH.out _ (Kd.C_below HRa.out (below_alloc HL.out _)) HCa.out (Kd.C_below HRt.out (below_alloc HL.out _)) HCt.out (Kd.C_below HRb.out (below_alloc HL.out _)) HCb.out (Kd.C_below HRu.out (below_alloc HL.out _)) HCu.out) ?_
          rintro e w37 ⟨v, rfl, hv, hb⟩
          have HLn := Aside0.mk (below_step (show Below W0.heap.size W0 _ from (below_alloc HL.out _)) hb)
          have HKnh : Aside0 (w37.heap[w32.heap.size]? = some (.cells #[.slice none 0 0, .slice none 0 0] 48 (0, 0))) := ⟨blk_below (blk_new _ _) hb⟩
          obtain ⟨v1, v2, ev, hv1, hv2⟩ := hv
          subst ev
          obtain ⟨Az, cz, ev⟩ := Kd.R_slice hv1
          subst ev
          obtain ⟨Av, cv, ev⟩ := Kd.R_slice hv2
          subst ev
          have HOz := Aside0.mk (Kd.R_lower hv1 (show Below W0.heap.size W0 _ from (below_alloc HL.out _)).size)
          have HOv := Aside0.mk (Kd.R_lower hv2 (show Below W0.heap.size W0 _ from (below_alloc HL.out _)).size)
          clear hv1 hv2
          clear HL
          have HL := HLn; clear HLn
          have HKh := HKnh; clear HKnh
          clear hb
          have HIzz := Aside0.mk (show W0.heap.size ≤ w37.heap.size from HL.out.size)
          go_wp2_with (first | (go_at_call 28; refine stop_ ?_) | (go_at_call 17; refine stop_ ?_) | (go_at_call 45; refine stop_ ?_) | (go_at_call 47; refine stop_ ?_) | (go_at_call 48; refine stop_ ?_) | (go_at_call 51; refine stop_ ?_) | (go_at_call 44; refine stop_ ?_) | (go_at_call 46; refine stop_ ?_) | (go_at_call 49; refine stop_ ?_) | (go_at_call 50; refine stop_ ?_) | (go_at_call 52; refine stop_ ?_) | (go_at_call 10; refine stop_ ?_) | (go_at_call 20; refine stop_ ?_) | (go_at_call 36; refine stop_ ?_))
          refine ⟨?_⟩
          refine Calls.mono (error_true (r := er) (e := codeE em) (congrArg codeE ER.out) _ (HG.out.below (below_alloc HL.out _))) ?_
          rintro e w38 ⟨rfl, hb⟩
          have HLn := Aside0.mk (below_step (show Below W0.heap.size W0 _ from (below_alloc HL.out _)) hb)
          have HOnz := Aside0.mk (Kd.R_below (Kd.R_alloc HOz.out _) hb)
          have HOnv := Aside0.mk (Kd.R_below (Kd.R_alloc HOv.out _) hb)
          have HKnh : Aside0 (w38.heap[w32.heap.size]? = some (.cells #[.slice none 0 0, .slice none 0 0] 48 (0, 0))) := ⟨blk_below (blk_alloc HKh.out _) hb⟩
          have HKnzz : Aside0 (w38.heap[w37.heap.size]? = some (.cells #[.slice Az r1.length cz, .slice Av r2.length cv] 48 (0, 0))) := ⟨blk_below (blk_new _ _) hb⟩
          clear HL HOz HOv HKh
          have HL := HLn; clear HLn
          have HOz := HOnz; clear HOnz
          have HOv := HOnv; clear HOnv
          have HKh := HKnh; clear HKnh
          have HKzz := HKnzz; clear HKnzz
          clear hb
          have yzz0 := ((blk_cell HKzz.out 0).trans (show _ = some (.slice Az r1.length cz) from rfl))
          have yzz1 := ((blk_cell HKzz.out 1).trans (show _ = some (.slice Av r2.length cv) from rfl))
          have yh0 := ((blk_cell HKh.out 0).trans (show _ = some (.slice none 0 0) from rfl))
          have yh1 := ((blk_cell HKh.out 1).trans (show _ = some (.slice none 0 0) from rfl))
          go_wp2_with (first | (go_at_call 28; refine stop_ ?_) | (go_at_call 17; refine stop_ ?_) | (go_at_call 45; refine stop_ ?_) | (go_at_call 47; refine stop_ ?_) | (go_at_call 48; refine stop_ ?_) | (go_at_call 51; refine stop_ ?_) | (go_at_call 44; refine stop_ ?_) | (go_at_call 46; refine stop_ ?_) | (go_at_call 49; refine stop_ ?_) | (go_at_call 50; refine stop_ ?_) | (go_at_call 52; refine stop_ ?_) | (go_at_call 10; refine stop_ ?_) | (go_at_call 20; refine stop_ ?_) | (go_at_call 36; refine stop_ ?_))
          refine ⟨?_⟩
          clear yzz0 yzz1 yh0 yh1
          refine Calls.mono (sameL_true ER1.out ER2.out Az cz Av cv none 0 none 0 _ (Kd.R_reads' HOz.out).2.2 (Kd.R_reads' HOv.out).2.2 (C_none _) (C_none _)) ?_
          rintro e w39 ⟨rfl, hb⟩
          have HLn := Aside0.mk (below_step (show Below W0.heap.size W0 _ from HL.out) hb)
          have HOnz := Aside0.mk (Kd.R_below HOz.out hb)
          have HOnv := Aside0.mk (Kd.R_below HOv.out hb)
          have HKnh : Aside0 (w39.heap[w32.heap.size]? = some (.cells #[.slice none 0 0, .slice none 0 0] 48 (0, 0))) := ⟨blk_below HKh.out hb⟩
          have HKnzz : Aside0 (w39.heap[w37.heap.size]? = some (.cells #[.slice Az r1.length cz, .slice Av r2.length cv] 48 (0, 0))) := ⟨blk_below HKzz.out hb⟩
          clear HL HOz HOv HKh HKzz
          have HL := HLn; clear HLn
          have HOz := HOnz; clear HOnz
          have HOv := HOnv; clear HOnv
          have HKh := HKnh; clear HKnh
          have HKzz := HKnzz; clear HKnzz
          clear hb
          go_wp2_with (first | (go_at_call 28; refine stop_ ?_) | (go_at_call 17; refine stop_ ?_) | (go_at_call 45; refine stop_ ?_) | (go_at_call 47; refine stop_ ?_) | (go_at_call 48; refine stop_ ?_) | (go_at_call 51; refine stop_ ?_) | (go_at_call 44; refine stop_ ?_) | (go_at_call 46; refine stop_ ?_) | (go_at_call 49; refine stop_ ?_) | (go_at_call 50; refine stop_ ?_) | (go_at_call 52; refine stop_ ?_) | (go_at_call 10; refine stop_ ?_) | (go_at_call 20; refine stop_ ?_) | (go_at_call 36; refine stop_ ?_))
          go_ret
          exact ⟨by first | rfl | (simp; done) | (simp [*]; done) | (simp; omega), below_step (show Below w.heap.size w W0 from HB0.out) ((show Below W0.heap.size W0 _ from HL.out))⟩
    · obtain ⟨nL, kL⟩ := Option.ne_none_iff_exists'.1 qL; have tL := codeE_ne0 kL (layErr_ne (HEL.out.trans kL)); have QL := Aside0.mk kL; clear qL kL
      have hbad := apply_bad2 (HES.out.trans QS.out) (HEL.out.trans QL.out); rw [HA.out] at hbad; have EA : Aside0 (eg = el) := ⟨by rw [QL.out]; exact congrArg Prod.snd hbad⟩; have EA1 : Aside0 (g = []) := ⟨congrArg Prod.fst hbad⟩; clear hbad
      have yl0 := ((Box.keep (Below.refl _ _) HL.out Bl.out) 0 (.slice Aa a.length ca) rfl)
      have yl1 := ((Box.keep (Below.refl _ _) HL.out Bl.out) 1 (.slice At t.length ct) rfl)
      go_wp2_with (first | (go_at_call 28; refine stop_ ?_) | (go_at_call 17; refine stop_ ?_) | (go_at_call 45; refine stop_ ?_) | (go_at_call 47; refine stop_ ?_) | (go_at_call 48; refine stop_ ?_) | (go_at_call 51; refine stop_ ?_) | (go_at_call 44; refine stop_ ?_) | (go_at_call 46; refine stop_ ?_) | (go_at_call 49; refine stop_ ?_) | (go_at_call 50; refine stop_ ?_) | (go_at_call 52; refine stop_ ?_) | (go_at_call 10; refine stop_ ?_) | (go_at_call 20; refine stop_ ?_) | (go_at_call 36; refine stop_ ?_))
      refine ⟨?_⟩
      clear yl0 yl1
      refine Calls.mono (cAP.out _ (Kd.C_below HRs.out HL.out) HCs.out (Kd.C_below HRa.out HL.out) HCa.out (Kd.C_below HRt.out HL.out) HCt.out) ?_
      rintro e w40 ⟨v, rfl, hv, hb⟩
      have HLn := Aside0.mk (below_step (show Below W0.heap.size W0 _ from HL.out) hb)
      obtain ⟨Ag, cg, ev⟩ := Kd.R_slice hv
      subst ev
      have HOg := Aside0.mk (Kd.R_lower hv (show Below W0.heap.size W0 _ from HL.out).size)
      clear hv
      clear HL
      have HL := HLn; clear HLn
      clear hb
      go_wp2_with (first | (go_at_call 28; refine stop_ ?_) | (go_at_call 17; refine stop_ ?_) | (go_at_call 45; refine stop_ ?_) | (go_at_call 47; refine stop_ ?_) | (go_at_call 48; refine stop_ ?_) | (go_at_call 51; refine stop_ ?_) | (go_at_call 44; refine stop_ ?_) | (go_at_call 46; refine stop_ ?_) | (go_at_call 49; refine stop_ ?_) | (go_at_call 50; refine stop_ ?_) | (go_at_call 52; refine stop_ ?_) | (go_at_call 10; refine stop_ ?_) | (go_at_call 20; refine stop_ ?_) | (go_at_call 36; refine stop_ ?_))
      refine ⟨?_⟩
      refine Calls.mono (error_true (r := eg) (e := codeE el) (congrArg codeE EA.out) _ (HG.out.below HL.out)) ?_
      rintro e w41 ⟨rfl, hb⟩
      have HLn := Aside0.mk (below_step (show Below W0.heap.size W0 _ from HL.out) hb)
      have HOng := Aside0.mk (Kd.R_below HOg.out hb)
      clear HL HOg
      have HL := HLn; clear HLn
      have HOg := HOng; clear HOng
      clear hb
      go_wp2_with (first | (go_at_call 28; refine stop_ ?_) | (go_at_call 17; refine stop_ ?_) | (go_at_call 45; refine stop_ ?_) | (go_at_call 47; refine stop_ ?_) | (go_at_call 48; refine stop_ ?_) | (go_at_call 51; refine stop_ ?_) | (go_at_call 44; refine stop_ ?_) | (go_at_call 46; refine stop_ ?_) | (go_at_call 49; refine stop_ ?_) | (go_at_call 50; refine stop_ ?_) | (go_at_call 52; refine stop_ ?_) | (go_at_call 10; refine stop_ ?_) | (go_at_call 20; refine stop_ ?_) | (go_at_call 36; refine stop_ ?_))
      refine ⟨?_⟩
      refine Calls.mono (same_true EA1.out Ag none cg 0 _ (Kd.R_reads' HOg.out).2.2 (C_none _)) ?_
      rintro e w42 ⟨rfl, hb⟩
      have HLn := Aside0.mk (below_step (show Below W0.heap.size W0 _ from HL.out) hb)
      have HOng := Aside0.mk (Kd.R_below HOg.out hb)
      clear HL HOg
      have HL := HLn; clear HLn
      have HOg := HOng; clear HOng
      clear hb
      clear HOg
      go_wp2_with (first | (go_at_call 28; refine stop_ ?_) | (go_at_call 17; refine stop_ ?_) | (go_at_call 45; refine stop_ ?_) | (go_at_call 47; refine stop_ ?_) | (go_at_call 48; refine stop_ ?_) | (go_at_call 51; refine stop_ ?_) | (go_at_call 44; refine stop_ ?_) | (go_at_call 46; refine stop_ ?_) | (go_at_call 49; refine stop_ ?_) | (go_at_call 50; refine stop_ ?_) | (go_at_call 52; refine stop_ ?_) | (go_at_call 10; refine stop_ ?_) | (go_at_call 20; refine stop_ ?_) | (go_at_call 36; refine stop_ ?_))
      refine ⟨?_⟩
      refine Calls.mono (cTW.out _ (Kd.C_below HRs.out HL.out) (Kd.C_below HRo.out HL.out)) ?_
      rintro e w43 ⟨rfl, hb⟩
      replace hb := hb.bel
      have HLn := Aside0.mk (below_step (show Below W0.heap.size W0 _ from HL.out) hb)
      clear HL
      have HL := HLn; clear HLn
      clear hb
      by_cases q2 : e2 = none
      · have t2 := codeE_eq0 q2; have Q2 := Aside0.mk q2; clear q2
        have hgood : betwR s o = ((partR o s false, partR s o false), none) := by unfold betwR; rw [HE2.out.trans Q2.out]
        rw [HP.out] at hgood; have E2P : Aside0 (ep = e2) := ⟨by rw [Q2.out]; exact congrArg Prod.snd hgood⟩; have EP1 : Aside0 (p = partR o s false) := ⟨congrArg (fun z => z.1.1) hgood⟩; have EP2 : Aside0 (q = partR s o false) := ⟨congrArg (fun z => z.1.2) hgood⟩; clear hgood
        have HIn := Aside0.mk (show W0.heap.size ≤ w43.heap.size from HL.out.size)
        go_wp2_with (first | (go_at_call 28; refine stop_ ?_) | (go_at_call 17; refine stop_ ?_) | (go_at_call 45; refine stop_ ?_) | (go_at_call 47; refine stop_ ?_) | (go_at_call 48; refine stop_ ?_) | (go_at_call 51; refine stop_ ?_) | (go_at_call 44; refine stop_ ?_) | (go_at_call 46; refine stop_ ?_) | (go_at_call 49; refine stop_ ?_) | (go_at_call 50; refine stop_ ?_) | (go_at_call 52; refine stop_ ?_) | (go_at_call 10; refine stop_ ?_) | (go_at_call 20; refine stop_ ?_) | (go_at_call 36; refine stop_ ?_))
        refine ⟨?_⟩
        refine Calls.mono (rpart_calls Ao co o As cs s false _ (Kd.C_below HRo.out (below_alloc HL.out _)) (Kd.C_below HRs.out (below_alloc HL.out _)) (by have := sortedR_len (right2_none.1 (HE2.out.trans Q2.out)).2; omega)) ?_
        rintro e w44 ⟨v, rfl, hv, hb⟩
        have HLn := Aside0.mk (below_step (show Below W0.heap.size W0 _ from (below_alloc HL.out _)) hb)
        have HKnn : Aside0 (w44.heap[w43.heap.size]? = some (.cells #[.slice none 0 0, .slice none 0 0] 48 (0, 0))) := ⟨blk_below (blk_new _ _) hb⟩
        obtain ⟨Ax, cx, ev⟩ := Kd.R_slice hv
        subst ev
        have HOx := Aside0.mk (Kd.R_lower hv (show Below W0.heap.size W0 _ from (below_alloc HL.out _)).size)
        clear hv
        clear HL
        have HL := HLn; clear HLn
        have HKn := HKnn; clear HKnn
        clear hb
        have yn0 := ((blk_cell HKn.out 0).trans (show _ = some (.slice none 0 0) from rfl))
        have yn1 := ((blk_cell HKn.out 1).trans (show _ = some (.slice none 0 0) from rfl))
        have yfn0 := blk_frozen HKn.out 0
        have yfn1 := blk_frozen HKn.out 1
        go_wp2_with (first | (go_at_call 28; refine stop_ ?_) | (go_at_call 17; refine stop_ ?_) | (go_at_call 45; refine stop_ ?_) | (go_at_call 47; refine stop_ ?_) | (go_at_call 48; refine stop_ ?_) | (go_at_call 51; refine stop_ ?_) | (go_at_call 44; refine stop_ ?_) | (go_at_call 46; refine stop_ ?_) | (go_at_call 49; refine stop_ ?_) | (go_at_call 50; refine stop_ ?_) | (go_at_call 52; refine stop_ ?_) | (go_at_call 10; refine stop_ ?_) | (go_at_call 20; refine stop_ ?_) | (go_at_call 36; refine stop_ ?_))
        clear yn0 yn1 yfn0 yfn1
        refine ⟨?_⟩
        refine Calls.mono (rpart_calls As cs s Ao co o false _ (Kd.C_below HRs.out (below_set HL.out HIn.out)) (Kd.C_below HRo.out (below_set HL.out HIn.out)) (by have := sortedR_len (right2_none.1 (HE2.out.trans Q2.out)).1; omega)) ?_
        rintro e w45 ⟨v, rfl, hv, hb⟩
        have HLn := Aside0.mk (below_step (show Below W0.heap.size W0 _ from (below_set HL.out HIn.out)) hb)
        have HOnx := Aside0.mk (Kd.R_below (Kd.R_set HOx.out HKn.out (by decide) 0 _) hb)
        have HKnn : Aside0 (w45.heap[w43.heap.size]? = some (.cells #[.slice Ax (partR o s false).length cx, .slice none 0 0] 48 (0, 0))) := ⟨blk_below (blk_put HKn.out 0 _ rfl) hb⟩
        obtain ⟨Ay, cy, ev⟩ := Kd.R_slice hv
        subst ev
        have HOy := Aside0.mk (Kd.R_lower hv (show Below W0.heap.size W0 _ from (below_set HL.out HIn.out)).size)
        clear hv
        clear HL HOx HKn
        have HL := HLn; clear HLn
        have HOx := HOnx; clear HOnx
        have HKn := HKnn; clear HKnn
        clear hb
        have yn0 := ((blk_cell HKn.out 0).trans (show _ = some (.slice Ax (partR o s false).length cx) from rfl))
        have yn1 := ((blk_cell HKn.out 1).trans (show _ = some (.slice none 0 0) from rfl))
        have yfn0 := blk_frozen HKn.out 0
        have yfn1 := blk_frozen HKn.out 1
        go_wp2_with (first | (go_at_call 28; refine stop_ ?_) | (go_at_call 17; refine stop_ ?_) | (go_at_call 45; refine stop_ ?_) | (go_at_call 47; refine stop_ ?_) | (go_at_call 48; refine stop_ ?_) | (go_at_call 51; refine stop_ ?_) | (go_at_call 44; refine stop_ ?_) | (go_at_call 46; refine stop_ ?_) | (go_at_call 49; refine stop_ ?_) | (go_at_call 50; refine stop_ ?_) | (go_at_call 52; refine stop_ ?_) | (go_at_call 10; refine stop_ ?_) | (go_at_call 20; refine stop_ ?_) | (go_at_call 36; refine stop_ ?_))
        clear yn0 yn1 yfn0 yfn1
        refine ⟨?_⟩
        refine Calls.mono (cBT.out _ (Kd.C_below HRs.out (below_set HL.out HIn.out)) HCs.out (Kd.C_below HRo.out (below_set HL.out HIn.out)) HCo.out) ?_
        rintro e w46 ⟨v, rfl, hv, hb⟩
        have HLn := Aside0.mk (below_step (show Below W0.heap.size W0 _ from (below_set HL.out HIn.out)) hb)
        have HOnx := Aside0.mk (Kd.R_below (Kd.R_set HOx.out HKn.out (by decide) 1 _) hb)
        have HOny := Aside0.mk (Kd.R_below (Kd.R_set HOy.out HKn.out (by decide) 1 _) hb)
        have HKnn : Aside0 (w46.heap[w43.heap.size]? = some (.cells #[.slice Ax (partR o s false).length cx, .slice Ay (partR s o false).length cy] 48 (0, 0))) := ⟨blk_below (blk_put HKn.out 1 _ rfl) hb⟩
        obtain ⟨v1, v2, ev, hv1, hv2⟩ := hv
        subst ev
        obtain ⟨Ap, cp, ev⟩ := Kd.R_slice hv1
        subst ev
        obtain ⟨Aq, cq, ev⟩ := Kd.R_slice hv2
        subst ev
        have HOp := Aside0.mk (Kd.R_lower hv1 (show Below W0.heap.size W0 _ from (below_set HL.out HIn.out)).size)
        have HOq := Aside0.mk (Kd.R_lower hv2 (show Below W0.heap.size W0 _ from (below_set HL.out HIn.out)).size)
        clear hv1 hv2
        clear HL HOx HOy HKn
        have HL := HLn; clear HLn
        have HOx := HOnx; clear HOnx
        have HOy := HOny; clear HOny
        have HKn := HKnn; clear HKnn
        clear hb
        have HIx := Aside0.mk (show W0.heap.size ≤ w46.heap.size from HL.out.size)
        go_wp2_with (first | (go_at_call 28; refine stop_ ?_) | (go_at_call 17; refine stop_ ?_) | (go_at_call 45; refine stop_ ?_) | (go_at_call 47; refine stop_ ?_) | (go_at_call 48; refine stop_ ?_) | (go_at_call 51; refine stop_ ?_) | (go_at_call 44; refine stop_ ?_) | (go_at_call 46; refine stop_ ?_) | (go_at_call 49; refine stop_ ?_) | (go_at_call 50; refine stop_ ?_) | (go_at_call 52; refine stop_ ?_) | (go_at_call 10; refine stop_ ?_) | (go_at_call 20; refine stop_ ?_) | (go_at_call 36; refine stop_ ?_))
        refine ⟨?_⟩
        refine Calls.mono (error_true (r := ep) (e := codeE e2) (congrArg codeE E2P.out) _ (HG.out.below (below_alloc HL.out _))) ?_
        rintro e w47 ⟨rfl, hb⟩
        have HLn := Aside0.mk (below_step (show Below W0.heap.size W0 _ from (below_alloc HL.out _)) hb)
        have HOnx := Aside0.mk (Kd.R_below (Kd.R_alloc HOx.out _) hb)
        have HOny := Aside0.mk (Kd.R_below (Kd.R_alloc HOy.out _) hb)
        have HOnp := Aside0.mk (Kd.R_below (Kd.R_alloc HOp.out _) hb)
        have HOnq := Aside0.mk (Kd.R_below (Kd.R_alloc HOq.out _) hb)
        have HKnn : Aside0 (w47.heap[w43.heap.size]? = some (.cells #[.slice Ax (partR o s false).length cx, .slice Ay (partR s o false).length cy] 48 (0, 0))) := ⟨blk_below (blk_alloc HKn.out _) hb⟩
        have HKnx : Aside0 (w47.heap[w46.heap.size]? = some (.cells #[.slice Ap p.length cp, .slice Aq q.length cq] 48 (0, 0))) := ⟨blk_below (blk_new _ _) hb⟩
        clear HL HOx HOy HOp HOq HKn
        have HL := HLn; clear HLn
        have HOx := HOnx; clear HOnx
        have HOy := HOny; clear HOny
        have HOp := HOnp; clear HOnp
        have HOq := HOnq; clear HOnq
        have HKn := HKnn; clear HKnn
        have HKx := HKnx; clear HKnx
        clear hb
        have yx0 := ((blk_cell HKx.out 0).trans (show _ = some (.slice Ap p.length cp) from rfl))
        have yx1 := ((blk_cell HKx.out 1).trans (show _ = some (.slice Aq q.length cq) from rfl))
        have yn0 := ((blk_cell HKn.out 0).trans (show _ = some (.slice Ax (partR o s false).length cx) from rfl))
        have yn1 := ((blk_cell HKn.out 1).trans (show _ = some (.slice Ay (partR s o false).length cy) from rfl))
        go_wp2_with (first | (go_at_call 28; refine stop_ ?_) | (go_at_call 17; refine stop_ ?_) | (go_at_call 45; refine stop_ ?_) | (go_at_call 47; refine stop_ ?_) | (go_at_call 48; refine stop_ ?_) | (go_at_call 51; refine stop_ ?_) | (go_at_call 44; refine stop_ ?_) | (go_at_call 46; refine stop_ ?_) | (go_at_call 49; refine stop_ ?_) | (go_at_call 50; refine stop_ ?_) | (go_at_call 52; refine stop_ ?_) | (go_at_call 10; refine stop_ ?_) | (go_at_call 20; refine stop_ ?_) | (go_at_call 36; refine stop_ ?_))
        refine ⟨?_⟩
        clear yx0 yx1 yn0 yn1
        refine Calls.mono (sameL_true EP1.out EP2.out Ap cp Aq cq Ax cx Ay cy _ (Kd.R_reads' HOp.out).2.2 (Kd.R_reads' HOq.out).2.2 (Kd.R_reads' HOx.out).2.2 (Kd.R_reads' HOy.out).2.2) ?_
        rintro e w48 ⟨rfl, hb⟩
        have HLn := Aside0.mk (below_step (show Below W0.heap.size W0 _ from HL.out) hb)
        have HOnx := Aside0.mk (Kd.R_below HOx.out hb)
        have HOny := Aside0.mk (Kd.R_below HOy.out hb)
        have HOnp := Aside0.mk (Kd.R_below HOp.out hb)
        have HOnq := Aside0.mk (Kd.R_below HOq.out hb)
        have HKnn : Aside0 (w48.heap[w43.heap.size]? = some (.cells #[.slice Ax (partR o s false).length cx, .slice Ay (partR s o false).length cy] 48 (0, 0))) := ⟨blk_below HKn.out hb⟩
        have HKnx : Aside0 (w48.heap[w46.heap.size]? = some (.cells #[.slice Ap p.length cp, .slice Aq q.length cq] 48 (0, 0))) := ⟨blk_below HKx.out hb⟩
        clear HL HOx HOy HOp HOq HKn HKx
        have HL := HLn; clear HLn
        have HOx := HOnx; clear HOnx
        have HOy := HOny; clear HOny
        have HOp := HOnp; clear HOnp
        have HOq := HOnq; clear HOnq
        have HKn := HKnn; clear HKnn
        have HKx := HKnx; clear HKnx
        clear hb
        clear HOp HOq HOx HOy
        clear HKn
        clear HKx
        have HId := Aside0.mk (show W0.heap.size ≤ w48.heap.size from HL.out.size)
        have yol0 := fun (o : Obj) => cell?_alloc_old ((Box.keep (Below.refl _ _) HL.out Bl.out) 0 (.slice Aa a.length ca) rfl) o
        have yol1 := fun (o : Obj) => cell?_alloc_old ((Box.keep (Below.refl _ _) HL.out Bl.out) 1 (.slice At t.length ct) rfl) o
        go_wp2_with (first | (go_at_call 28; refine stop_ ?_) | (go_at_call 17; refine stop_ ?_) | (go_at_call 45; refine stop_ ?_) | (go_at_call 47; refine stop_ ?_) | (go_at_call 48; refine stop_ ?_) | (go_at_call 51; refine stop_ ?_) | (go_at_call 44; refine stop_ ?_) | (go_at_call 46; refine stop_ ?_) | (go_at_call 49; refine stop_ ?_) | (go_at_call 50; refine stop_ ?_) | (go_at_call 52; refine stop_ ?_) | (go_at_call 10; refine stop_ ?_) | (go_at_call 20; refine stop_ ?_) | (go_at_call 36; refine stop_ ?_))
        refine ⟨?_⟩
        clear yol0 yol1
        refine Calls.mono (cTN.out _ (Kd.C_below HRa.out (below_alloc HL.out _)) HCa.out (Kd.C_below HRt.out (below_alloc HL.out _)) HCt.out) ?_
        rintro e w49 ⟨v, rfl, hv, hb⟩
        have HLn := Aside0.mk (below_step (show Below W0.heap.size W0 _ from (below_alloc HL.out _)) hb)
        have HKnd : Aside0 (w49.heap[w48.heap.size]? = some (.cells #[.slice none 0 0, .slice none 0 0] 48 (0, 0))) := ⟨blk_below (blk_new _ _) hb⟩
        rw [if_neg (by rw [QL.out]; simp), if_neg (by rw [QL.out]; simp)] at hv
        obtain ⟨v1, v2, ev, hv1, hv2⟩ := hv
        subst ev
        obtain ⟨Ak, ck, ev⟩ := Kd.R_slice hv1
        subst ev
        obtain ⟨Aj, cj, ev⟩ := Kd.R_slice hv2
        subst ev
        have HOk := Aside0.mk (Kd.R_lower hv1 (show Below W0.heap.size W0 _ from (below_alloc HL.out _)).size)
        have HOj := Aside0.mk (Kd.R_lower hv2 (show Below W0.heap.size W0 _ from (below_alloc HL.out _)).size)
        clear hv1 hv2
        clear HL
        have HL := HLn; clear HLn
        have HKd := HKnd; clear HKnd
        clear hb
        have HIy := Aside0.mk (show W0.heap.size ≤ w49.heap.size from HL.out.size)
        go_wp2_with (first | (go_at_call 28; refine stop_ ?_) | (go_at_call 17; refine stop_ ?_) | (go_at_call 45; refine stop_ ?_) | (go_at_call 47; refine stop_ ?_) | (go_at_call 48; refine stop_ ?_) | (go_at_call 51; refine stop_ ?_) | (go_at_call 44; refine stop_ ?_) | (go_at_call 46; refine stop_ ?_) | (go_at_call 49; refine stop_ ?_) | (go_at_call 50; refine stop_ ?_) | (go_at_call 52; refine stop_ ?_) | (go_at_call 10; refine stop_ ?_) | (go_at_call 20; refine stop_ ?_) | (go_at_call 36; refine stop_ ?_))
        refine ⟨?_⟩
        refine Calls.mono (error_true (r := el) (e := codeE el) rfl _ (HG.out.below (below_alloc HL.out _))) ?_
        rintro e w50 ⟨rfl, hb⟩
        have HLn := Aside0.mk (below_step (show Below W0.heap.size W0 _ from (below_alloc HL.out _)) hb)
        have HOnk := Aside0.mk (Kd.R_below (Kd.R_alloc HOk.out _) hb)
        have HOnj := Aside0.mk (Kd.R_below (Kd.R_alloc HOj.out _) hb)
        have HKnd : Aside0 (w50.heap[w48.heap.size]? = some (.cells #[.slice none 0 0, .slice none 0 0] 48 (0, 0))) := ⟨blk_below (blk_alloc HKd.out _) hb⟩
        have HKny : Aside0 (w50.heap[w49.heap.size]? = some (.cells #[.slice Ak (([] : List S25)).length ck, .slice Aj (([] : List S25)).length cj] 48 (0, 0))) := ⟨blk_below (blk_new _ _) hb⟩
        clear HL HOk HOj HKd
        have HL := HLn; clear HLn
        have HOk := HOnk; clear HOnk
        have HOj := HOnj; clear HOnj
        have HKd := HKnd; clear HKnd
        have HKy := HKny; clear HKny
        clear hb
        have yy0 := ((blk_cell HKy.out 0).trans (show _ = some (.slice Ak (([] : List S25)).length ck) from rfl))
        have yy1 := ((blk_cell HKy.out 1).trans (show _ = some (.slice Aj (([] : List S25)).length cj) from rfl))
        have yd0 := ((blk_cell HKd.out 0).trans (show _ = some (.slice none 0 0) from rfl))
        have yd1 := ((blk_cell HKd.out 1).trans (show _ = some (.slice none 0 0) from rfl))
        go_wp2_with (first | (go_at_call 28; refine stop_ ?_) | (go_at_call 17; refine stop_ ?_) | (go_at_call 45; refine stop_ ?_) | (go_at_call 47; refine stop_ ?_) | (go_at_call 48; refine stop_ ?_) | (go_at_call 51; refine stop_ ?_) | (go_at_call 44; refine stop_ ?_) | (go_at_call 46; refine stop_ ?_) | (go_at_call 49; refine stop_ ?_) | (go_at_call 50; refine stop_ ?_) | (go_at_call 52; refine stop_ ?_) | (go_at_call 10; refine stop_ ?_) | (go_at_call 20; refine stop_ ?_) | (go_at_call 36; refine stop_ ?_))
        refine ⟨?_⟩
        clear yy0 yy1 yd0 yd1
        refine Calls.mono (sameL_true (l1 := []) (l3 := []) (l2 := []) (l4 := []) rfl rfl Ak ck Aj cj none 0 none 0 _ (Kd.R_reads' HOk.out).2.2 (Kd.R_reads' HOj.out).2.2 (C_none _) (C_none _)) ?_
        rintro e w51 ⟨rfl, hb⟩
        have HLn := Aside0.mk (below_step (show Below W0.heap.size W0 _ from HL.out) hb)
        have HOnk := Aside0.mk (Kd.R_below HOk.out hb)
        have HOnj := Aside0.mk (Kd.R_below HOj.out hb)
        have HKnd : Aside0 (w51.heap[w48.heap.size]? = some (.cells #[.slice none 0 0, .slice none 0 0] 48 (0, 0))) := ⟨blk_below HKd.out hb⟩
        have HKny : Aside0 (w51.heap[w49.heap.size]? = some (.cells #[.slice Ak (([] : List S25)).length ck, .slice Aj (([] : List S25)).length cj] 48 (0, 0))) := ⟨blk_below HKy.out hb⟩
        clear HL HOk HOj HKd HKy
        have HL := HLn; clear HLn
        have HOk := HOnk; clear HOnk
        have HOj := HOnj; clear HOnj
        have HKd := HKnd; clear HKnd
        have HKy := HKny; clear HKny
        clear hb
        clear HOk HOj HKd HKy
        have hbad := then_bad (a' := b) (t' := u) (HEL.out.trans QL.out); rw [HT.out] at hbad; have ER : Aside0 (er = el) := ⟨by rw [QL.out]; exact congrArg Prod.snd hbad⟩; have ER1 : Aside0 (r1 = []) := ⟨congrArg (fun z => z.1.1) hbad⟩; have ER2 : Aside0 (r2 = []) := ⟨congrArg (fun z => z.1.2) hbad⟩; clear hbad
        have HIh := Aside0.mk (show W0.heap.size ≤ w51.heap.size from HL.out.size)
        have yol0 := fun (o : Obj) => cell?_alloc_old ((Box.keep (Below.refl _ _) HL.out Bl.out) 0 (.slice Aa a.length ca) rfl) o
        have yol1 := fun (o : Obj) => cell?_alloc_old ((Box.keep (Below.refl _ _) HL.out Bl.out) 1 (.slice At t.length ct) rfl) o
        have yom0 := fun (o : Obj) => cell?_alloc_old ((Box.keep (Below.refl _ _) HL.out Bm.out) 0 (.slice Ab b.length cb) rfl) o
        have yom1 := fun (o : Obj) => cell?_alloc_old ((Box.keep (Below.refl _ _) HL.out Bm.out) 1 (.slice Au u.length cu) rfl) o
        go_wp2_with (first | (go_at_call 28; refine stop_ ?_) | (go_at_call 17; refine stop_ ?_) | (go_at_call 45; refine stop_ ?_) | (go_at_call 47; refine stop_ ?_) | (go_at_call 48; refine stop_ ?_) | (go_at_call 51; refine stop_ ?_) | (go_at_call 44; refine stop_ ?_) | (go_at_call 46; refine stop_ ?_) | (go_at_call 49; refine stop_ ?_) | (go_at_call 50; refine stop_ ?_) | (go_at_call 52; refine stop_ ?_) | (go_at_call 10; refine stop_ ?_) | (go_at_call 20; refine stop_ ?_) | (go_at_call 36; refine stop_ ?_))
        refine ⟨?_⟩
        clear yol0 yol1 yom0 yom1
        refine Calls.mono (cTH.out _ (Kd.C_below HRa.out (below_alloc HL.out _)) HCa.out (Kd.C_below HRt.out (below_alloc HL.out _)) HCt.out (Kd.C_below HRb.out (below_alloc HL.out _)) HCb.out (Kd.C_below HRu.out (below_alloc HL.out _)) HCu.out) ?_
        rintro e w52 ⟨v, rfl, hv, hb⟩
        have HLn := Aside0.mk (below_step (show Below W0.heap.size W0 _ from (below_alloc HL.out _)) hb)
        have HKnh : Aside0 (w52.heap[w51.heap.size]? = some (.cells #[.slice none 0 0, .slice none 0 0] 48 (0, 0))) := ⟨blk_below (blk_new _ _) hb⟩
        obtain ⟨v1, v2, ev, hv1, hv2⟩ := hv
        subst ev
        obtain ⟨Az, cz, ev⟩ := Kd.R_slice hv1
        subst ev
        obtain ⟨Av, cv, ev⟩ := Kd.R_slice hv2
        subst ev
        have HOz := Aside0.mk (Kd.R_lower hv1 (show Below W0.heap.size W0 _ from (below_alloc HL.out _)).size)
        have HOv := Aside0.mk (Kd.R_lower hv2 (show Below W0.heap.size W0 _ from (below_alloc HL.out _)).size)
        clear hv1 hv2
        clear HL
        have HL := HLn; clear HLn
        have HKh := HKnh; clear HKnh
        clear hb
        have HIzz := Aside0.mk (show W0.heap.size ≤ w52.heap.size from HL.out.size)
        go_wp2_with (first | (go_at_call 28; refine stop_ ?_) | (go_at_call 17; refine stop_ ?_) | (go_at_call 45; refine stop_ ?_) | (go_at_call 47; refine stop_ ?_) | (go_at_call 48; refine stop_ ?_) | (go_at_call 51; refine stop_ ?_) | (go_at_call 44; refine stop_ ?_) | (go_at_call 46; refine stop_ ?_) | (go_at_call 49; refine stop_ ?_) | (go_at_call 50; refine stop_ ?_) | (go_at_call 52; refine stop_ ?_) | (go_at_call 10; refine stop_ ?_) | (go_at_call 20; refine stop_ ?_) | (go_at_call 36; refine stop_ ?_))
        refine ⟨?_⟩
        refine Calls.mono (error_true (r := er) (e := codeE el) (congrArg codeE ER.out) _ (HG.out.below (below_alloc HL.out _))) ?_
        rintro e w53 ⟨rfl, hb⟩
        have HLn := Aside0.mk (below_step (show Below W0.heap.size W0 _ from (below_alloc HL.out _)) hb)
        have HOnz := Aside0.mk (Kd.R_below (Kd.R_alloc HOz.out _) hb)
        have HOnv := Aside0.mk (Kd.R_below (Kd.R_alloc HOv.out _) hb)
        have HKnh : Aside0 (w53.heap[w51.heap.size]? = some (.cells #[.slice none 0 0, .slice none 0 0] 48 (0, 0))) := ⟨blk_below (blk_alloc HKh.out _) hb⟩
        have HKnzz : Aside0 (w53.heap[w52.heap.size]? = some (.cells #[.slice Az r1.length cz, .slice Av r2.length cv] 48 (0, 0))) := ⟨blk_below (blk_new _ _) hb⟩
        clear HL HOz HOv HKh
        have HL := HLn; clear HLn
        have HOz := HOnz; clear HOnz
        have HOv := HOnv; clear HOnv
        have HKh := HKnh; clear HKnh
        have HKzz := HKnzz; clear HKnzz
        clear hb
        have yzz0 := ((blk_cell HKzz.out 0).trans (show _ = some (.slice Az r1.length cz) from rfl))
        have yzz1 := ((blk_cell HKzz.out 1).trans (show _ = some (.slice Av r2.length cv) from rfl))
        have yh0 := ((blk_cell HKh.out 0).trans (show _ = some (.slice none 0 0) from rfl))
        have yh1 := ((blk_cell HKh.out 1).trans (show _ = some (.slice none 0 0) from rfl))
        go_wp2_with (first | (go_at_call 28; refine stop_ ?_) | (go_at_call 17; refine stop_ ?_) | (go_at_call 45; refine stop_ ?_) | (go_at_call 47; refine stop_ ?_) | (go_at_call 48; refine stop_ ?_) | (go_at_call 51; refine stop_ ?_) | (go_at_call 44; refine stop_ ?_) | (go_at_call 46; refine stop_ ?_) | (go_at_call 49; refine stop_ ?_) | (go_at_call 50; refine stop_ ?_) | (go_at_call 52; refine stop_ ?_) | (go_at_call 10; refine stop_ ?_) | (go_at_call 20; refine stop_ ?_) | (go_at_call 36; refine stop_ ?_))
        refine ⟨?_⟩
        clear yzz0 yzz1 yh0 yh1
        refine Calls.mono (sameL_true ER1.out ER2.out Az cz Av cv none 0 none 0 _ (Kd.R_reads' HOz.out).2.2 (Kd.R_reads' HOv.out).2.2 (C_none _) (C_none _)) ?_
        rintro e w54 ⟨rfl, hb⟩
        have HLn := Aside0.mk (below_step (show Below W0.heap.size W0 _ from HL.out) hb)
        have HOnz := Aside0.mk (Kd.R_below HOz.out hb)
        have HOnv := Aside0.mk (Kd.R_below HOv.out hb)
        have HKnh : Aside0 (w54.heap[w51.heap.size]? = some (.cells #[.slice none 0 0, .slice none 0 0] 48 (0, 0))) := ⟨blk_below HKh.out hb⟩
        have HKnzz : Aside0 (w54.heap[w52.heap.size]? = some (.cells #[.slice Az r1.length cz, .slice Av r2.length cv] 48 (0, 0))) := ⟨blk_below HKzz.out hb⟩
        clear HL HOz HOv HKh HKzz
        have HL := HLn; clear HLn
        have HOz := HOnz; clear HOnz
        have HOv := HOnv; clear HOnv
        have HKh := HKnh; clear HKnh
        have HKzz := HKnzz; clear HKnzz
        clear hb
        go_wp2_with (first | (go_at_call 28; refine stop_ ?_) | (go_at_call 17; refine stop_ ?_) | (go_at_call 45; refine stop_ ?_) | (go_at_call 47; refine stop_ ?_) | (go_at_call 48; refine stop_ ?_) | (go_at_call 51; refine stop_ ?_) | (go_at_call 44; refine stop_ ?_) | (go_at_call 46; refine stop_ ?_) | (go_at_call 49; refine stop_ ?_) | (go_at_call 50; refine stop_ ?_) | (go_at_call 52; refine stop_ ?_) | (go_at_call 10; refine stop_ ?_) | (go_at_call 20; refine stop_ ?_) | (go_at_call 36; refine stop_ ?_))
        go_ret
        exact ⟨by first | rfl | (simp; done) | (simp [*]; done) | (simp; omega), below_step (show Below w.heap.size w W0 from HB0.out) ((show Below W0.heap.size W0 _ from HL.out))⟩
      · obtain ⟨n2, k2⟩ := Option.ne_none_iff_exists'.1 q2; have t2 := codeE_ne0 k2 (right2_ne (HE2.out.trans k2)); have Q2 := Aside0.mk k2; clear q2 k2
        have hbad := betw_bad (HE2.out.trans Q2.out); rw [HP.out] at hbad; have E2P : Aside0 (ep = e2) := ⟨by rw [Q2.out]; exact congrArg Prod.snd hbad⟩; have EP1 : Aside0 (p = []) := ⟨congrArg (fun z => z.1.1) hbad⟩; have EP2 : Aside0 (q = []) := ⟨congrArg (fun z => z.1.2) hbad⟩; clear hbad
        have HIn := Aside0.mk (show W0.heap.size ≤ w43.heap.size from HL.out.size)
        go_wp2_with (first | (go_at_call 28; refine stop_ ?_) | (go_at_call 17; refine stop_ ?_) | (go_at_call 45; refine stop_ ?_) | (go_at_call 47; refine stop_ ?_) | (go_at_call 48; refine stop_ ?_) | (go_at_call 51; refine stop_ ?_) | (go_at_call 44; refine stop_ ?_) | (go_at_call 46; refine stop_ ?_) | (go_at_call 49; refine stop_ ?_) | (go_at_call 50; refine stop_ ?_) | (go_at_call 52; refine stop_ ?_) | (go_at_call 10; refine stop_ ?_) | (go_at_call 20; refine stop_ ?_) | (go_at_call 36; refine stop_ ?_))
        refine ⟨?_⟩
        refine Calls.mono (cBT.out _ (Kd.C_below HRs.out (below_alloc HL.out _)) HCs.out (Kd.C_below HRo.out (below_alloc HL.out _)) HCo.out) ?_
        rintro e w55 ⟨v, rfl, hv, hb⟩
        have HLn := Aside0.mk (below_step (show Below W0.heap.size W0 _ from (below_alloc HL.out _)) hb)
        have HKnn : Aside0 (w55.heap[w43.heap.size]? = some (.cells #[.slice none 0 0, .slice none 0 0] 48 (0, 0))) := ⟨blk_below (blk_new _ _) hb⟩
        obtain ⟨v1, v2, ev, hv1, hv2⟩ := hv
        subst ev
        obtain ⟨Ap, cp, ev⟩ := Kd.R_slice hv1
        subst ev
        obtain ⟨Aq, cq, ev⟩ := Kd.R_slice hv2
        subst ev
        have HOp := Aside0.mk (Kd.R_lower hv1 (show Below W0.heap.size W0 _ from (below_alloc HL.out _)).size)
        have HOq := Aside0.mk (Kd.R_lower hv2 (show Below W0.heap.size W0 _ from (below_alloc HL.out _)).size)
        clear hv1 hv2
        clear HL
        have HL := HLn; clear HLn
        have HKn := HKnn; clear HKnn
        clear hb
        have HIx := Aside0.mk (show W0.heap.size ≤ w55.heap.size from HL.out.size)
        go_wp2_with (first | (go_at_call 28; refine stop_ ?_) | (go_at_call 17; refine stop_ ?_) | (go_at_call 45; refine stop_ ?_) | (go_at_call 47; refine stop_ ?_) | (go_at_call 48; refine stop_ ?_) | (go_at_call 51; refine stop_ ?_) | (go_at_call 44; refine stop_ ?_) | (go_at_call 46; refine stop_ ?_) | (go_at_call 49; refine stop_ ?_) | (go_at_call 50; refine stop_ ?_) | (go_at_call 52; refine stop_ ?_) | (go_at_call 10; refine stop_ ?_) | (go_at_call 20; refine stop_ ?_) | (go_at_call 36; refine stop_ ?_))
        refine ⟨?_⟩
        refine Calls.mono (error_true (r := ep) (e := codeE e2) (congrArg codeE E2P.out) _ (HG.out.below (below_alloc HL.out _))) ?_
        rintro e w56 ⟨rfl, hb⟩
        have HLn := Aside0.mk (below_step (show Below W0.heap.size W0 _ from (below_alloc HL.out _)) hb)
        have HOnp := Aside0.mk (Kd.R_below (Kd.R_alloc HOp.out _) hb)
        have HOnq := Aside0.mk (Kd.R_below (Kd.R_alloc HOq.out _) hb)
        have HKnn : Aside0 (w56.heap[w43.heap.size]? = some (.cells #[.slice none 0 0, .slice none 0 0] 48 (0, 0))) := ⟨blk_below (blk_alloc HKn.out _) hb⟩
        have HKnx : Aside0 (w56.heap[w55.heap.size]? = some (.cells #[.slice Ap p.length cp, .slice Aq q.length cq] 48 (0, 0))) := ⟨blk_below (blk_new _ _) hb⟩
        clear HL HOp HOq HKn
        have HL := HLn; clear HLn
        have HOp := HOnp; clear HOnp
        have HOq := HOnq; clear HOnq
        have HKn := HKnn; clear HKnn
        have HKx := HKnx; clear HKnx
        clear hb
        have yx0 := ((blk_cell HKx.out 0).trans (show _ = some (.slice Ap p.length cp) from rfl))
        have yx1 := ((blk_cell HKx.out 1).trans (show _ = some (.slice Aq q.length cq) from rfl))
        have yn0 := ((blk_cell HKn.out 0).trans (show _ = some (.slice none 0 0) from rfl))
        have yn1 := ((blk_cell HKn.out 1).trans (show _ = some (.slice none 0 0) from rfl))
        go_wp2_with (first | (go_at_call 28; refine stop_ ?_) | (go_at_call 17; refine stop_ ?_) | (go_at_call 45; refine stop_ ?_) | (go_at_call 47; refine stop_ ?_) | (go_at_call 48; refine stop_ ?_) | (go_at_call 51; refine stop_ ?_) | (go_at_call 44; refine stop_ ?_) | (go_at_call 46; refine stop_ ?_) | (go_at_call 49; refine stop_ ?_) | (go_at_call 50; refine stop_ ?_) | (go_at_call 52; refine stop_ ?_) | (go_at_call 10; refine stop_ ?_) | (go_at_call 20; refine stop_ ?_) | (go_at_call 36; refine stop_ ?_))
        refine ⟨?_⟩
        clear yx0 yx1 yn0 yn1
        refine Calls.mono (sameL_true EP1.out EP2.out Ap cp Aq cq none 0 none 0 _ (Kd.R_reads' HOp.out).2.2 (Kd.R_reads' HOq.out).2.2 (C_none _) (C_none _)) ?_
        rintro e w57 ⟨rfl, hb⟩
        have HLn := Aside0.mk (below_step (show Below W0.heap.size W0 _ from HL.out) hb)
        have HOnp := Aside0.mk (Kd.R_below HOp.out hb)
        have HOnq := Aside0.mk (Kd.R_below HOq.out hb)
        have HKnn : Aside0 (w57.heap[w43.heap.size]? = some (.cells #[.slice none 0 0, .slice none 0 0] 48 (0, 0))) := ⟨blk_below HKn.out hb⟩
        have HKnx : Aside0 (w57.heap[w55.heap.size]? = some (.cells #[.slice Ap p.length cp, .slice Aq q.length cq] 48 (0, 0))) := ⟨blk_below HKx.out hb⟩
        clear HL HOp HOq HKn HKx
        have HL := HLn; clear HLn
        have HOp := HOnp; clear HOnp
        have HOq := HOnq; clear HOnq
        have HKn := HKnn; clear HKnn
        have HKx := HKnx; clear HKnx
        clear hb
        clear HOp HOq
        clear HKn
        clear HKx
        have HId := Aside0.mk (show W0.heap.size ≤ w57.heap.size from HL.out.size)
        have yol0 := fun (o : Obj) => cell?_alloc_old ((Box.keep (Below.refl _ _) HL.out Bl.out) 0 (.slice Aa a.length ca) rfl) o
        have yol1 := fun (o : Obj) => cell?_alloc_old ((Box.keep (Below.refl _ _) HL.out Bl.out) 1 (.slice At t.length ct) rfl) o
        go_wp2_with (first | (go_at_call 28; refine stop_ ?_) | (go_at_call 17; refine stop_ ?_) | (go_at_call 45; refine stop_ ?_) | (go_at_call 47; refine stop_ ?_) | (go_at_call 48; refine stop_ ?_) | (go_at_call 51; refine stop_ ?_) | (go_at_call 44; refine stop_ ?_) | (go_at_call 46; refine stop_ ?_) | (go_at_call 49; refine stop_ ?_) | (go_at_call 50; refine stop_ ?_) | (go_at_call 52; refine stop_ ?_) | (go_at_call 10; refine stop_ ?_) | (go_at_call 20; refine stop_ ?_) | (go_at_call 36; refine stop_ ?_))
        refine ⟨?_⟩
        clear yol0 yol1
        refine Calls.mono (cTN.out _ (Kd.C_below HRa.out (below_alloc HL.out _)) HCa.out (Kd.C_below HRt.out (below_alloc HL.out _)) HCt.out) ?_
        rintro e w58 ⟨v, rfl, hv, hb⟩
        have HLn := Aside0.mk (below_step (show Below W0.heap.size W0 _ from (below_alloc HL.out _)) hb)
        have HKnd : Aside0 (w58.heap[w57.heap.size]? = some (.cells #[.slice none 0 0, .slice none 0 0] 48 (0, 0))) := ⟨blk_below (blk_new _ _) hb⟩
        rw [if_neg (by rw [QL.out]; simp), if_neg (by rw [QL.out]; simp)] at hv
        obtain ⟨v1, v2, ev, hv1, hv2⟩ := hv
        subst ev
        obtain ⟨Ak, ck, ev⟩ := Kd.R_slice hv1
        subst ev
        obtain ⟨Aj, cj, ev⟩ := Kd.R_slice hv2
        subst ev
        have HOk := Aside0.mk (Kd.R_lower hv1 (show Below W0.heap.size W0 _ from (below_alloc HL.out _)).size)
        have HOj := Aside0.mk (Kd.R_lower hv2 (show Below W0.heap.size W0 _ from (below_alloc HL.out _)).size)
        clear hv1 hv2
        clear HL
        have HL := HLn; clear HLn
        have HKd := HKnd; clear HKnd
        clear hb
        have HIy := Aside0.mk (show W0.heap.size ≤ w58.heap.size from HL.out.size)
        go_wp2_with (first | (go_at_call 28; refine stop_ ?_) | (go_at_call 17; refine stop_ ?_) | (go_at_call 45; refine stop_ ?_) | (go_at_call 47; refine stop_ ?_) | (go_at_call 48; refine stop_ ?_) | (go_at_call 51; refine stop_ ?_) | (go_at_call 44; refine stop_ ?_) | (go_at_call 46; refine stop_ ?_) | (go_at_call 49; refine stop_ ?_) | (go_at_call 50; refine stop_ ?_) | (go_at_call 52; refine stop_ ?_) | (go_at_call 10; refine stop_ ?_) | (go_at_call 20; refine stop_ ?_) | (go_at_call 36; refine stop_ ?_))
        refine ⟨?_⟩
        refine Calls.mono (error_true (r := el) (e := codeE el) rfl _ (HG.out.below (below_alloc HL.out _))) ?_
        rintro e w59 ⟨rfl, hb⟩
        have HLn := Aside0.mk (below_step (show Below W0.heap.size W0 _ from (below_alloc HL.out _)) hb)
        have HOnk := Aside0.mk (Kd.R_below (Kd.R_alloc HOk.out _) hb)
        have HOnj := Aside0.mk (Kd.R_below (Kd.R_alloc HOj.out _) hb)
        have HKnd : Aside0 (w59.heap[w57.heap.size]? = some (.cells #[.slice none 0 0, .slice none 0 0] 48 (0, 0))) := ⟨blk_below (blk_alloc HKd.out _) hb⟩
        have HKny : Aside0 (w59.heap[w58.heap.size]? = some (.cells #[.slice Ak (([] : List S25)).length ck, .slice Aj (([] : List S25)).length cj] 48 (0, 0))) := ⟨blk_below (blk_new _ _) hb⟩
        clear HL HOk HOj HKd
        have HL := HLn; clear HLn
        have HOk := HOnk; clear HOnk
        have HOj := HOnj; clear HOnj
        have HKd := HKnd; clear HKnd
        have HKy := HKny; clear HKny
        clear hb
        have yy0 := ((blk_cell HKy.out 0).trans (show _ = some (.slice Ak (([] : List S25)).length ck) from rfl))
        have yy1 := ((blk_cell HKy.out 1).trans (show _ = some (.slice Aj (([] : List S25)).length cj) from rfl))
        have yd0 := ((blk_cell HKd.out 0).trans (show _ = some (.slice none 0 0) from rfl))
        have yd1 := ((blk_cell HKd.out 1).trans (show _ = some (.slice none 0 0) from rfl))
        go_wp2_with (first | (go_at_call 28; refine stop_ ?_) | (go_at_call 17; refine stop_ ?_) | (go_at_call 45; refine stop_ ?_) | (go_at_call 47; refine stop_ ?_) | (go_at_call 48; refine stop_ ?_) | (go_at_call 51; refine stop_ ?_) | (go_at_call 44; refine stop_ ?_) | (go_at_call 46; refine stop_ ?_) | (go_at_call 49; refine stop_ ?_) | (go_at_call 50; refine stop_ ?_) | (go_at_call 52; refine stop_ ?_) | (go_at_call 10; refine stop_ ?_) | (go_at_call 20; refine stop_ ?_) | (go_at_call 36; refine stop_ ?_))
        refine ⟨?_⟩
        clear yy0 yy1 yd0 yd1
        refine Calls.mono (sameL_true (l1 := []) (l3 := []) (l2 := []) (l4 := []) rfl rfl Ak ck Aj cj none 0 none 0 _ (Kd.R_reads' HOk.out).2.2 (Kd.R_reads' HOj.out).2.2 (C_none _) (C_none _)) ?_
        rintro e w60 ⟨rfl, hb⟩
        have HLn := Aside0.mk (below_step (show Below W0.heap.size W0 _ from HL.out) hb)
        have HOnk := Aside0.mk (Kd.R_below HOk.out hb)
        have HOnj := Aside0.mk (Kd.R_below HOj.out hb)
        have HKnd : Aside0 (w60.heap[w57.heap.size]? = some (.cells #[.slice none 0 0, .slice none 0 0] 48 (0, 0))) := ⟨blk_below HKd.out hb⟩
        have HKny : Aside0 (w60.heap[w58.heap.size]? = some (.cells #[.slice Ak (([] : List S25)).length ck, .slice Aj (([] : List S25)).length cj] 48 (0, 0))) := ⟨blk_below HKy.out hb⟩
        clear HL HOk HOj HKd HKy
        have HL := HLn; clear HLn
        have HOk := HOnk; clear HOnk
        have HOj := HOnj; clear HOnj
        have HKd := HKnd; clear HKnd
        have HKy := HKny; clear HKny
        clear hb
        clear HOk HOj HKd HKy
        have hbad := then_bad (a' := b) (t' := u) (HEL.out.trans QL.out); rw [HT.out] at hbad; have ER : Aside0 (er = el) := ⟨by rw [QL.out]; exact congrArg Prod.snd hbad⟩; have ER1 : Aside0 (r1 = []) := ⟨congrArg (fun z => z.1.1) hbad⟩; have ER2 : Aside0 (r2 = []) := ⟨congrArg (fun z => z.1.2) hbad⟩; clear hbad
        have HIh := Aside0.mk (show W0.heap.size ≤ w60.heap.size from HL.out.size)
        have yol0 := fun (o : Obj) => cell?_alloc_old ((Box.keep (Below.refl _ _) HL.out Bl.out) 0 (.slice Aa a.length ca) rfl) o
        have yol1 := fun (o : Obj) => cell?_alloc_old ((Box.keep (Below.refl _ _) HL.out Bl.out) 1 (.slice At t.length ct) rfl) o
        have yom0 := fun (o : Obj) => cell?_alloc_old ((Box.keep (Below.refl _ _) HL.out Bm.out) 0 (.slice Ab b.length cb) rfl) o
        have yom1 := fun (o : Obj) => cell?_alloc_old ((Box.keep (Below.refl _ _) HL.out Bm.out) 1 (.slice Au u.length cu) rfl) o
        go_wp2_with (first | (go_at_call 28; refine stop_ ?_) | (go_at_call 17; refine stop_ ?_) | (go_at_call 45; refine stop_ ?_) | (go_at_call 47; refine stop_ ?_) | (go_at_call 48; refine stop_ ?_) | (go_at_call 51; refine stop_ ?_) | (go_at_call 44; refine stop_ ?_) | (go_at_call 46; refine stop_ ?_) | (go_at_call 49; refine stop_ ?_) | (go_at_call 50; refine stop_ ?_) | (go_at_call 52; refine stop_ ?_) | (go_at_call 10; refine stop_ ?_) | (go_at_call 20; refine stop_ ?_) | (go_at_call 36; refine stop_ ?_))
        refine ⟨?_⟩
        clear yol0 yol1 yom0 yom1
        refine Calls.mono (cTH.out _ (Kd.C_below HRa.out (below_alloc HL.out _)) HCa.out (Kd.C_below HRt.out (below_alloc HL.out _)) HCt.out (Kd.C_below HRb.out (below_alloc HL.out _)) HCb.out (Kd.C_below HRu.out (below_alloc HL.out _)) HCu.out) ?_
        rintro e w61 ⟨v, rfl, hv, hb⟩
        have HLn := Aside0.mk (below_step (show Below W0.heap.size W0 _ from (below_alloc HL.out _)) hb)
        have HKnh : Aside0 (w61.heap[w60.heap.size]? = some (.cells #[.slice none 0 0, .slice none 0 0] 48 (0, 0))) := ⟨blk_below (blk_new _ _) hb⟩
        obtain ⟨v1, v2, ev, hv1, hv2⟩ := hv
        subst ev
        obtain ⟨Az, cz, ev⟩ := Kd.R_slice hv1
        subst ev
        obtain ⟨Av, cv, ev⟩ := Kd.R_slice hv2
        subst ev
        have HOz := Aside0.mk (Kd.R_lower hv1 (show Below W0.heap.size W0 _ from (below_alloc HL.out _)).size)
        have HOv := Aside0.mk (Kd.R_lower hv2 (show Below W0.heap.size W0 _ from (below_alloc HL.out _)).size)
        clear hv1 hv2
        clear HL
        have HL := HLn; clear HLn
        have HKh := HKnh; clear HKnh
        clear hb
        have HIzz := Aside0.mk (show W0.heap.size ≤ w61.heap.size from HL.out.size)
        go_wp2_with (first | (go_at_call 28; refine stop_ ?_) | (go_at_call 17; refine stop_ ?_) | (go_at_call 45; refine stop_ ?_) | (go_at_call 47; refine stop_ ?_) | (go_at_call 48; refine stop_ ?_) | (go_at_call 51; refine stop_ ?_) | (go_at_call 44; refine stop_ ?_) | (go_at_call 46; refine stop_ ?_) | (go_at_call 49; refine stop_ ?_) | (go_at_call 50; refine stop_ ?_) | (go_at_call 52; refine stop_ ?_) | (go_at_call 10; refine stop_ ?_) | (go_at_call 20; refine stop_ ?_) | (go_at_call 36; refine stop_ ?_))
        refine ⟨?_⟩
        refine Calls.mono (error_true (r := er) (e := codeE el) (congrArg codeE ER.out) _ (HG.out.below (below_alloc HL.out _))) ?_
        rintro e w62 ⟨rfl, hb⟩
        have HLn := Aside0.mk (below_step (show Below W0.heap.size W0 _ from (below_alloc HL.out _)) hb)
        have HOnz := Aside0.mk (Kd.R_below (Kd.R_alloc HOz.out _) hb)
        have HOnv := Aside0.mk (Kd.R_below (Kd.R_alloc HOv.out _) hb)
        have HKnh : Aside0 (w62.heap[w60.heap.size]? = some (.cells #[.slice none 0 0, .slice none 0 0] 48 (0, 0))) := ⟨blk_below (blk_alloc HKh.out _) hb⟩
        have HKnzz : Aside0 (w62.heap[w61.heap.size]? = some (.cells #[.slice Az r1.length cz, .slice Av r2.length cv] 48 (0, 0))) := ⟨blk_below (blk_new _ _) hb⟩
        clear HL HOz HOv HKh
        have HL := HLn; clear HLn
        have HOz := HOnz; clear HOnz
        have HOv := HOnv; clear HOnv
        have HKh := HKnh; clear HKnh
        have HKzz := HKnzz; clear HKnzz
        clear hb
        have yzz0 := ((blk_cell HKzz.out 0).trans (show _ = some (.slice Az r1.length cz) from rfl))
        have yzz1 := ((blk_cell HKzz.out 1).trans (show _ = some (.slice Av r2.length cv) from rfl))
        have yh0 := ((blk_cell HKh.out 0).trans (show _ = some (.slice none 0 0) from rfl))
        have yh1 := ((blk_cell HKh.out 1).trans (show _ = some (.slice none 0 0) from rfl))
        go_wp2_with (first | (go_at_call 28; refine stop_ ?_) | (go_at_call 17; refine stop_ ?_) | (go_at_call 45; refine stop_ ?_) | (go_at_call 47; refine stop_ ?_) | (go_at_call 48; refine stop_ ?_) | (go_at_call 51; refine stop_ ?_) | (go_at_call 44; refine stop_ ?_) | (go_at_call 46; refine stop_ ?_) | (go_at_call 49; refine stop_ ?_) | (go_at_call 50; refine stop_ ?_) | (go_at_call 52; refine stop_ ?_) | (go_at_call 10; refine stop_ ?_) | (go_at_call 20; refine stop_ ?_) | (go_at_call 36; refine stop_ ?_))
        refine ⟨?_⟩
        clear yzz0 yzz1 yh0 yh1
        refine Calls.mono (sameL_true ER1.out ER2.out Az cz Av cv none 0 none 0 _ (Kd.R_reads' HOz.out).2.2 (Kd.R_reads' HOv.out).2.2 (C_none _) (C_none _)) ?_
        rintro e w63 ⟨rfl, hb⟩
        have HLn := Aside0.mk (below_step (show Below W0.heap.size W0 _ from HL.out) hb)
        have HOnz := Aside0.mk (Kd.R_below HOz.out hb)
        have HOnv := Aside0.mk (Kd.R_below HOv.out hb)
        have HKnh : Aside0 (w63.heap[w60.heap.size]? = some (.cells #[.slice none 0 0, .slice none 0 0] 48 (0, 0))) := ⟨blk_below HKh.out hb⟩
        have HKnzz : Aside0 (w63.heap[w61.heap.size]? = some (.cells #[.slice Az r1.length cz, .slice Av r2.length cv] 48 (0, 0))) := ⟨blk_below HKzz.out hb⟩
        clear HL HOz HOv HKh HKzz
        have HL := HLn; clear HLn
        have HOz := HOnz; clear HOnz
        have HOv := HOnv; clear HOnv
        have HKh := HKnh; clear HKnh
        have HKzz := HKnzz; clear HKnzz
        clear hb
        go_wp2_with (first | (go_at_call 28; refine stop_ ?_) | (go_at_call 17; refine stop_ ?_) | (go_at_call 45; refine stop_ ?_) | (go_at_call 47; refine stop_ ?_) | (go_at_call 48; refine stop_ ?_) | (go_at_call 51; refine stop_ ?_) | (go_at_call 44; refine stop_ ?_) | (go_at_call 46; refine stop_ ?_) | (go_at_call 49; refine stop_ ?_) | (go_at_call 50; refine stop_ ?_) | (go_at_call 52; refine stop_ ?_) | (go_at_call 10; refine stop_ ?_) | (go_at_call 20; refine stop_ ?_) | (go_at_call 36; refine stop_ ?_))
        go_ret
        exact ⟨by first | rfl | (simp; done) | (simp [*]; done) | (simp; omega), below_step (show Below w.heap.size w W0 from HB0.out) ((show Below W0.heap.size W0 _ from HL.out))⟩
  · obtain ⟨nS, kS⟩ := Option.ne_none_iff_exists'.1 qS; have tS := codeE_ne0 kS (sortedR_ne (HES.out.trans kS)); have QS := Aside0.mk kS; clear qS kS
    have hbad := apply_bad (a := a) (t := t) (HES.out.trans QS.out); rw [HA.out] at hbad; have EA : Aside0 (eg = es) := ⟨by rw [QS.out]; exact congrArg Prod.snd hbad⟩; have EA1 : Aside0 (g = []) := ⟨congrArg Prod.fst hbad⟩; clear hbad
    have yl0 := ((Box.keep (Below.refl _ _) HL.out Bl.out) 0 (.slice Aa a.length ca) rfl)
    have yl1 := ((Box.keep (Below.refl _ _) HL.out Bl.out) 1 (.slice At t.length ct) rfl)
    go_wp2_with (first | (go_at_call 28; refine stop_ ?_) | (go_at_call 17; refine stop_ ?_) | (go_at_call 45; refine stop_ ?_) | (go_at_call 47; refine stop_ ?_) | (go_at_call 48; refine stop_ ?_) | (go_at_call 51; refine stop_ ?_) | (go_at_call 44; refine stop_ ?_) | (go_at_call 46; refine stop_ ?_) | (go_at_call 49; refine stop_ ?_) | (go_at_call 50; refine stop_ ?_) | (go_at_call 52; refine stop_ ?_) | (go_at_call 10; refine stop_ ?_) | (go_at_call 20; refine stop_ ?_) | (go_at_call 36; refine stop_ ?_))
    refine ⟨?_⟩
    clear yl0 yl1
    refine Calls.mono (cAP.out _ (Kd.C_below HRs.out HL.out) HCs.out (Kd.C_below HRa.out HL.out) HCa.out (Kd.C_below HRt.out HL.out) HCt.out) ?_
    rintro e w64 ⟨v, rfl, hv, hb⟩
    have HLn := Aside0.mk (below_step (show Below W0.heap.size W0 _ from HL.out) hb)
    obtain ⟨Ag, cg, ev⟩ := Kd.R_slice hv
    subst ev
    have HOg := Aside0.mk (Kd.R_lower hv (show Below W0.heap.size W0 _ from HL.out).size)
    clear hv
    clear HL
    have HL := HLn; clear HLn
    clear hb
    go_wp2_with (first | (go_at_call 28; refine stop_ ?_) | (go_at_call 17; refine stop_ ?_) | (go_at_call 45; refine stop_ ?_) | (go_at_call 47; refine stop_ ?_) | (go_at_call 48; refine stop_ ?_) | (go_at_call 51; refine stop_ ?_) | (go_at_call 44; refine stop_ ?_) | (go_at_call 46; refine stop_ ?_) | (go_at_call 49; refine stop_ ?_) | (go_at_call 50; refine stop_ ?_) | (go_at_call 52; refine stop_ ?_) | (go_at_call 10; refine stop_ ?_) | (go_at_call 20; refine stop_ ?_) | (go_at_call 36; refine stop_ ?_))
    refine ⟨?_⟩
    refine Calls.mono (error_true (r := eg) (e := codeE es) (congrArg codeE EA.out) _ (HG.out.below HL.out)) ?_
    rintro e w65 ⟨rfl, hb⟩
    have HLn := Aside0.mk (below_step (show Below W0.heap.size W0 _ from HL.out) hb)
    have HOng := Aside0.mk (Kd.R_below HOg.out hb)
    clear HL HOg
    have HL := HLn; clear HLn
    have HOg := HOng; clear HOng
    clear hb
    go_wp2_with (first | (go_at_call 28; refine stop_ ?_) | (go_at_call 17; refine stop_ ?_) | (go_at_call 45; refine stop_ ?_) | (go_at_call 47; refine stop_ ?_) | (go_at_call 48; refine stop_ ?_) | (go_at_call 51; refine stop_ ?_) | (go_at_call 44; refine stop_ ?_) | (go_at_call 46; refine stop_ ?_) | (go_at_call 49; refine stop_ ?_) | (go_at_call 50; refine stop_ ?_) | (go_at_call 52; refine stop_ ?_) | (go_at_call 10; refine stop_ ?_) | (go_at_call 20; refine stop_ ?_) | (go_at_call 36; refine stop_ ?_))
    refine ⟨?_⟩
    refine Calls.mono (same_true EA1.out Ag none cg 0 _ (Kd.R_reads' HOg.out).2.2 (C_none _)) ?_
    rintro e w66 ⟨rfl, hb⟩
    have HLn := Aside0.mk (below_step (show Below W0.heap.size W0 _ from HL.out) hb)
    have HOng := Aside0.mk (Kd.R_below HOg.out hb)
    clear HL HOg
    have HL := HLn; clear HLn
    have HOg := HOng; clear HOng
    clear hb
    clear HOg
    go_wp2_with (first | (go_at_call 28; refine stop_ ?_) | (go_at_call 17; refine stop_ ?_) | (go_at_call 45; refine stop_ ?_) | (go_at_call 47; refine stop_ ?_) | (go_at_call 48; refine stop_ ?_) | (go_at_call 51; refine stop_ ?_) | (go_at_call 44; refine stop_ ?_) | (go_at_call 46; refine stop_ ?_) | (go_at_call 49; refine stop_ ?_) | (go_at_call 50; refine stop_ ?_) | (go_at_call 52; refine stop_ ?_) | (go_at_call 10; refine stop_ ?_) | (go_at_call 20; refine stop_ ?_) | (go_at_call 36; refine stop_ ?_))
    refine ⟨?_⟩
    refine Calls.mono (cTW.out _ (Kd.C_below HRs.out HL.out) (Kd.C_below HRo.out HL.out)) ?_
    rintro e w67 ⟨rfl, hb⟩
    replace hb := hb.bel
    have HLn := Aside0.mk (below_step (show Below W0.heap.size W0 _ from HL.out) hb)
    clear HL
    have HL := HLn; clear HLn
    clear hb
    have Q2 : Aside0 (e2 = some nS) := ⟨HE2.out.symm.trans (right2_bad (HES.out.trans QS.out))⟩; have t2 := codeE_ne0 Q2.out (right2_ne (HE2.out.trans Q2.out))
    by_cases qL : el = none
    · have tL := codeE_eq0 qL; have QL := Aside0.mk qL; clear qL
      have hbad := betw_bad (HE2.out.trans Q2.out); rw [HP.out] at hbad; have E2P : Aside0 (ep = e2) := ⟨by rw [Q2.out]; exact congrArg Prod.snd hbad⟩; have EP1 : Aside0 (p = []) := ⟨congrArg (fun z => z.1.1) hbad⟩; have EP2 : Aside0 (q = []) := ⟨congrArg (fun z => z.1.2) hbad⟩; clear hbad
      have HIn := Aside0.mk (show W0.heap.size ≤ w67.heap.size from HL.out.size)
      go_wp2_with (first | (go_at_call 28; refine stop_ ?_) | (go_at_call 17; refine stop_ ?_) | (go_at_call 45; refine stop_ ?_) | (go_at_call 47; refine stop_ ?_) | (go_at_call 48; refine stop_ ?_) | (go_at_call 51; refine stop_ ?_) | (go_at_call 44; refine stop_ ?_) | (go_at_call 46; refine stop_ ?_) | (go_at_call 49; refine stop_ ?_) | (go_at_call 50; refine stop_ ?_) | (go_at_call 52; refine stop_ ?_) | (go_at_call 10; refine stop_ ?_) | (go_at_call 20; refine stop_ ?_) | (go_at_call 36; refine stop_ ?_))
      refine ⟨?_⟩
      refine Calls.mono (cBT.out _ (Kd.C_below HRs.out (below_alloc HL.out _)) HCs.out (Kd.C_below HRo.out (below_alloc HL.out _)) HCo.out) ?_
      rintro e w68 ⟨v, rfl, hv, hb⟩
      have HLn := Aside0.mk (below_step (show Below W0.heap.size W0 _ from (below_alloc HL.out _)) hb)
      have HKnn : Aside0 (w68.heap[w67.heap.size]? = some (.cells #[.slice none 0 0, .slice none 0 0] 48 (0, 0))) := ⟨blk_below (blk_new _ _) hb⟩
      obtain ⟨v1, v2, ev, hv1, hv2⟩ := hv
      subst ev
      obtain ⟨Ap, cp, ev⟩ := Kd.R_slice hv1
      subst ev
      obtain ⟨Aq, cq, ev⟩ := Kd.R_slice hv2
      subst ev
      have HOp := Aside0.mk (Kd.R_lower hv1 (show Below W0.heap.size W0 _ from (below_alloc HL.out _)).size)
      have HOq := Aside0.mk (Kd.R_lower hv2 (show Below W0.heap.size W0 _ from (below_alloc HL.out _)).size)
      clear hv1 hv2
      clear HL
      have HL := HLn; clear HLn
      have HKn := HKnn; clear HKnn
      clear hb
      have HIx := Aside0.mk (show W0.heap.size ≤ w68.heap.size from HL.out.size)
      go_wp2_with (first | (go_at_call 28; refine stop_ ?_) | (go_at_call 17; refine stop_ ?_) | (go_at_call 45; refine stop_ ?_) | (go_at_call 47; refine stop_ ?_) | (go_at_call 48; refine stop_ ?_) | (go_at_call 51; refine stop_ ?_) | (go_at_call 44; refine stop_ ?_) | (go_at_call 46; refine stop_ ?_) | (go_at_call 49; refine stop_ ?_) | (go_at_call 50; refine stop_ ?_) | (go_at_call 52; refine stop_ ?_) | (go_at_call 10; refine stop_ ?_) | (go_at_call 20; refine stop_ ?_) | (go_at_call 36; refine stop_ ?_))
      refine ⟨?_⟩
      refine Calls.mono (error_true (r := ep) (e := codeE e2) (congrArg codeE E2P.out) _ (HG.out.below (below_alloc HL.out _))) ?_
      rintro e w69 ⟨rfl, hb⟩
      have HLn := Aside0.mk (below_step (show Below W0.heap.size W0 _ from (below_alloc HL.out _)) hb)
      have HOnp := Aside0.mk (Kd.R_below (Kd.R_alloc HOp.out _) hb)
      have HOnq := Aside0.mk (Kd.R_below (Kd.R_alloc HOq.out _) hb)
      have HKnn : Aside0 (w69.heap[w67.heap.size]? = some (.cells #[.slice none 0 0, .slice none 0 0] 48 (0, 0))) := ⟨blk_below (blk_alloc HKn.out _) hb⟩
      have HKnx : Aside0 (w69.heap[w68.heap.size]? = some (.cells #[.slice Ap p.length cp, .slice Aq q.length cq] 48 (0, 0))) := ⟨blk_below (blk_new _ _) hb⟩
      clear HL HOp HOq HKn
      have HL := HLn; clear HLn
      have HOp := HOnp; clear HOnp
      have HOq := HOnq; clear HOnq
      have HKn := HKnn; clear HKnn
      have HKx := HKnx; clear HKnx
      clear hb
      have yx0 := ((blk_cell HKx.out 0).trans (show _ = some (.slice Ap p.length cp) from rfl))
      have yx1 := ((blk_cell HKx.out 1).trans (show _ = some (.slice Aq q.length cq) from rfl))
      have yn0 := ((blk_cell HKn.out 0).trans (show _ = some (.slice none 0 0) from rfl))
      have yn1 := ((blk_cell HKn.out 1).trans (show _ = some (.slice none 0 0) from rfl))
      go_wp2_with (first | (go_at_call 28; refine stop_ ?_) | (go_at_call 17; refine stop_ ?_) | (go_at_call 45; refine stop_ ?_) | (go_at_call 47; refine stop_ ?_) | (go_at_call 48; refine stop_ ?_) | (go_at_call 51; refine stop_ ?_) | (go_at_call 44; refine stop_ ?_) | (go_at_call 46; refine stop_ ?_) | (go_at_call 49; refine stop_ ?_) | (go_at_call 50; refine stop_ ?_) | (go_at_call 52; refine stop_ ?_) | (go_at_call 10; refine stop_ ?_) | (go_at_call 20; refine stop_ ?_) | (go_at_call 36; refine stop_ ?_))
      refine ⟨?_⟩
      clear yx0 yx1 yn0 yn1
      refine Calls.mono (sameL_true EP1.out EP2.out Ap cp Aq cq none 0 none 0 _ (Kd.R_reads' HOp.out).2.2 (Kd.R_reads' HOq.out).2.2 (C_none _) (C_none _)) ?_
      rintro e w70 ⟨rfl, hb⟩
      have HLn := Aside0.mk (below_step (show Below W0.heap.size W0 _ from HL.out) hb)
      have HOnp := Aside0.mk (Kd.R_below HOp.out hb)
      have HOnq := Aside0.mk (Kd.R_below HOq.out hb)
      have HKnn : Aside0 (w70.heap[w67.heap.size]? = some (.cells #[.slice none 0 0, .slice none 0 0] 48 (0, 0))) := ⟨blk_below HKn.out hb⟩
      have HKnx : Aside0 (w70.heap[w68.heap.size]? = some (.cells #[.slice Ap p.length cp, .slice Aq q.length cq] 48 (0, 0))) := ⟨blk_below HKx.out hb⟩
      clear HL HOp HOq HKn HKx
      have HL := HLn; clear HLn
      have HOp := HOnp; clear HOnp
      have HOq := HOnq; clear HOnq
      have HKn := HKnn; clear HKnn
      have HKx := HKnx; clear HKnx
      clear hb
      clear HOp HOq
      clear HKn
      clear HKx
      have HId := Aside0.mk (show W0.heap.size ≤ w70.heap.size from HL.out.size)
      have yol0 := fun (o : Obj) => cell?_alloc_old ((Box.keep (Below.refl _ _) HL.out Bl.out) 0 (.slice Aa a.length ca) rfl) o
      have yol1 := fun (o : Obj) => cell?_alloc_old ((Box.keep (Below.refl _ _) HL.out Bl.out) 1 (.slice At t.length ct) rfl) o
      go_wp2_with (first | (go_at_call 28; refine stop_ ?_) | (go_at_call 17; refine stop_ ?_) | (go_at_call 45; refine stop_ ?_) | (go_at_call 47; refine stop_ ?_) | (go_at_call 48; refine stop_ ?_) | (go_at_call 51; refine stop_ ?_) | (go_at_call 44; refine stop_ ?_) | (go_at_call 46; refine stop_ ?_) | (go_at_call 49; refine stop_ ?_) | (go_at_call 50; refine stop_ ?_) | (go_at_call 52; refine stop_ ?_) | (go_at_call 10; refine stop_ ?_) | (go_at_call 20; refine stop_ ?_) | (go_at_call 36; refine stop_ ?_))
      refine ⟨?_⟩
      clear yol0 yol1
      refine Calls.mono (cTN.out _ (Kd.C_below HRa.out (below_alloc HL.out _)) HCa.out (Kd.C_below HRt.out (below_alloc HL.out _)) HCt.out) ?_
      rintro e w71 ⟨v, rfl, hv, hb⟩
      have HLn := Aside0.mk (below_step (show Below W0.heap.size W0 _ from (below_alloc HL.out _)) hb)
      have HKnd : Aside0 (w71.heap[w70.heap.size]? = some (.cells #[.slice At t.length ct, .slice Aa a.length ca] 48 (0, 0))) := ⟨blk_below (blk_new _ _) hb⟩
      rw [if_pos QL.out, if_pos QL.out] at hv
      obtain ⟨v1, v2, ev, hv1, hv2⟩ := hv
      subst ev
      obtain ⟨Ak, ck, ev⟩ := Kd.R_slice hv1
      subst ev
      obtain ⟨Aj, cj, ev⟩ := Kd.R_slice hv2
      subst ev
      have HOk := Aside0.mk (Kd.R_lower hv1 (show Below W0.heap.size W0 _ from (below_alloc HL.out _)).size)
      have HOj := Aside0.mk (Kd.R_lower hv2 (show Below W0.heap.size W0 _ from (below_alloc HL.out _)).size)
      clear hv1 hv2
      clear HL
      have HL := HLn; clear HLn
      have HKd := HKnd; clear HKnd
      clear hb
      have HIy := Aside0.mk (show W0.heap.size ≤ w71.heap.size from HL.out.size)
      go_wp2_with (first | (go_at_call 28; refine stop_ ?_) | (go_at_call 17; refine stop_ ?_) | (go_at_call 45; refine stop_ ?_) | (go_at_call 47; refine stop_ ?_) | (go_at_call 48; refine stop_ ?_) | (go_at_call 51; refine stop_ ?_) | (go_at_call 44; refine stop_ ?_) | (go_at_call 46; refine stop_ ?_) | (go_at_call 49; refine stop_ ?_) | (go_at_call 50; refine stop_ ?_) | (go_at_call 52; refine stop_ ?_) | (go_at_call 10; refine stop_ ?_) | (go_at_call 20; refine stop_ ?_) | (go_at_call 36; refine stop_ ?_))
      refine ⟨?_⟩
      refine Calls.mono (error_true (r := el) (e := codeE el) rfl _ (HG.out.below (below_alloc HL.out _))) ?_
      rintro e w72 ⟨rfl, hb⟩
      have HLn := Aside0.mk (below_step (show Below W0.heap.size W0 _ from (below_alloc HL.out _)) hb)
      have HOnk := Aside0.mk (Kd.R_below (Kd.R_alloc HOk.out _) hb)
      have HOnj := Aside0.mk (Kd.R_below (Kd.R_alloc HOj.out _) hb)
      have HKnd : Aside0 (w72.heap[w70.heap.size]? = some (.cells #[.slice At t.length ct, .slice Aa a.length ca] 48 (0, 0))) := ⟨blk_below (blk_alloc HKd.out _) hb⟩
      have HKny : Aside0 (w72.heap[w71.heap.size]? = some (.cells #[.slice Ak (t).length ck, .slice Aj (a).length cj] 48 (0, 0))) := ⟨blk_below (blk_new _ _) hb⟩
      clear HL HOk HOj HKd
      have HL := HLn; clear HLn
      have HOk := HOnk; clear HOnk
      have HOj := HOnj; clear HOnj
      have HKd := HKnd; clear HKnd
      have HKy := HKny; clear HKny
      clear hb
      have yy0 := ((blk_cell HKy.out 0).trans (show _ = some (.slice Ak (t).length ck) from rfl))
      have yy1 := ((blk_cell HKy.out 1).trans (show _ = some (.slice Aj (a).length cj) from rfl))
      have yd0 := ((blk_cell HKd.out 0).trans (show _ = some (.slice At t.length ct) from rfl))
      have yd1 := ((blk_cell HKd.out 1).trans (show _ = some (.slice Aa a.length ca) from rfl))
      go_wp2_with (first | (go_at_call 28; refine stop_ ?_) | (go_at_call 17; refine stop_ ?_) | (go_at_call 45; refine stop_ ?_) | (go_at_call 47; refine stop_ ?_) | (go_at_call 48; refine stop_ ?_) | (go_at_call 51; refine stop_ ?_) | (go_at_call 44; refine stop_ ?_) | (go_at_call 46; refine stop_ ?_) | (go_at_call 49; refine stop_ ?_) | (go_at_call 50; refine stop_ ?_) | (go_at_call 52; refine stop_ ?_) | (go_at_call 10; refine stop_ ?_) | (go_at_call 20; refine stop_ ?_) | (go_at_call 36; refine stop_ ?_))
      refine ⟨?_⟩
      clear yy0 yy1 yd0 yd1
      refine Calls.mono (sameL_true rfl rfl Ak ck Aj cj At ct Aa ca _ (Kd.R_reads' HOk.out).2.2 (Kd.R_reads' HOj.out).2.2 (Kd.C_below HRt.out HL.out) (Kd.C_below HRa.out HL.out)) ?_
      rintro e w73 ⟨rfl, hb⟩
      have HLn := Aside0.mk (below_step (show Below W0.heap.size W0 _ from HL.out) hb)
      have HOnk := Aside0.mk (Kd.R_below HOk.out hb)
      have HOnj := Aside0.mk (Kd.R_below HOj.out hb)
      have HKnd : Aside0 (w73.heap[w70.heap.size]? = some (.cells #[.slice At t.length ct, .slice Aa a.length ca] 48 (0, 0))) := ⟨blk_below HKd.out hb⟩
      have HKny : Aside0 (w73.heap[w71.heap.size]? = some (.cells #[.slice Ak (t).length ck, .slice Aj (a).length cj] 48 (0, 0))) := ⟨blk_below HKy.out hb⟩
      clear HL HOk HOj HKd HKy
      have HL := HLn; clear HLn
      have HOk := HOnk; clear HOnk
      have HOj := HOnj; clear HOnj
      have HKd := HKnd; clear HKnd
      have HKy := HKny; clear HKny
      clear hb
      clear HOk HOj HKd HKy
      have ym0 := ((Box.keep (Below.refl _ _) HL.out Bm.out) 0 (.slice Ab b.length cb) rfl)
      have ym1 := ((Box.keep (Below.refl _ _) HL.out Bm.out) 1 (.slice Au u.length cu) rfl)
      go_wp2_with (first | (go_at_call 28; refine stop_ ?_) | (go_at_call 17; refine stop_ ?_) | (go_at_call 45; refine stop_ ?_) | (go_at_call 47; refine stop_ ?_) | (go_at_call 48; refine stop_ ?_) | (go_at_call 51; refine stop_ ?_) | (go_at_call 44; refine stop_ ?_) | (go_at_call 46; refine stop_ ?_) | (go_at_call 49; refine stop_ ?_) | (go_at_call 50; refine stop_ ?_) | (go_at_call 52; refine stop_ ?_) | (go_at_call 10; refine stop_ ?_) | (go_at_call 20; refine stop_ ?_) | (go_at_call 36; refine stop_ ?_))
      refine ⟨?_⟩
      clear ym0 ym1
      refine Calls.mono (cRM.out _ (Kd.C_below HRb.out HL.out) (Kd.C_below HRu.out HL.out)) ?_
      rintro e w74 ⟨rfl, hb⟩
      have HLn := Aside0.mk (below_step (show Below W0.heap.size W0 _ from HL.out) hb)
      clear HL
      have HL := HLn; clear HLn
      clear hb
      by_cases qM : em = none
      · have tM := codeE_eq0 qM; have QM := Aside0.mk qM; clear qM
        have HIh := Aside0.mk (show W0.heap.size ≤ w74.heap.size from HL.out.size)
        have yol0 := fun (o : Obj) => cell?_alloc_old ((Box.keep (Below.refl _ _) HL.out Bl.out) 0 (.slice Aa a.length ca) rfl) o
        have yol1 := fun (o : Obj) => cell?_alloc_old ((Box.keep (Below.refl _ _) HL.out Bl.out) 1 (.slice At t.length ct) rfl) o
        have yom0 := fun (o : Obj) => cell?_alloc_old ((Box.keep (Below.refl _ _) HL.out Bm.out) 0 (.slice Ab b.length cb) rfl) o
        have yom1 := fun (o : Obj) => cell?_alloc_old ((Box.keep (Below.refl _ _) HL.out Bm.out) 1 (.slice Au u.length cu) rfl) o
        go_wp2_with (first | (go_at_call 28; refine stop_ ?_) | (go_at_call 17; refine stop_ ?_) | (go_at_call 45; refine stop_ ?_) | (go_at_call 47; refine stop_ ?_) | (go_at_call 48; refine stop_ ?_) | (go_at_call 51; refine stop_ ?_) | (go_at_call 44; refine stop_ ?_) | (go_at_call 46; refine stop_ ?_) | (go_at_call 49; refine stop_ ?_) | (go_at_call 50; refine stop_ ?_) | (go_at_call 52; refine stop_ ?_) | (go_at_call 10; refine stop_ ?_) | (go_at_call 20; refine stop_ ?_) | (go_at_call 36; refine stop_ ?_))
        refine ⟨?_⟩
        clear yol0 yol1 yom0 yom1
        refine Calls.mono (cRT.out (HEL.out.trans QL.out) (HEM.out.trans QM.out) _ (Kd.C_below HRa.out (below_alloc HL.out _)) (Kd.C_below HRt.out (below_alloc HL.out _)) (Kd.C_below HRb.out (below_alloc HL.out _)) (Kd.C_below HRu.out (below_alloc HL.out _))) ?_
        rintro e w75 ⟨v, rfl, hv, hb⟩
        have HLn := Aside0.mk (below_step (show Below W0.heap.size W0 _ from (below_alloc HL.out _)) hb)
        have HKnh : Aside0 (w75.heap[w74.heap.size]? = some (.cells #[.slice none 0 0, .slice none 0 0] 48 (0, 0))) := ⟨blk_below (blk_new _ _) hb⟩
        obtain ⟨v1, v2, ev, hv1, hv2⟩ := hv
        subst ev
        obtain ⟨Ae, ce, ev⟩ := Kd.R_slice hv1
        subst ev
        obtain ⟨Ai, ci, ev⟩ := Kd.R_slice hv2
        subst ev
        have HOe := Aside0.mk (Kd.R_lower hv1 (show Below W0.heap.size W0 _ from (below_alloc HL.out _)).size)
        have HOi := Aside0.mk (Kd.R_lower hv2 (show Below W0.heap.size W0 _ from (below_alloc HL.out _)).size)
        clear hv1 hv2
        clear HL
        have HL := HLn; clear HLn
        have HKh := HKnh; clear HKnh
        clear hb
        have yh0 := ((blk_cell HKh.out 0).trans (show _ = some (.slice none 0 0) from rfl))
        have yh1 := ((blk_cell HKh.out 1).trans (show _ = some (.slice none 0 0) from rfl))
        have yfh0 := blk_frozen HKh.out 0
        have yfh1 := blk_frozen HKh.out 1
        have yzl0 := fun (j : Nat) (u' : Value) (j2 : Nat) (u2 : Value) => (Box.keep (Below.refl _ _) (below_set (j := j2) (v := u2) (below_set (j := j) (v := u') HL.out HIh.out) HIh.out) Bl.out) 0 (.slice Aa a.length ca) rfl
        have yzl1 := fun (j : Nat) (u' : Value) (j2 : Nat) (u2 : Value) => (Box.keep (Below.refl _ _) (below_set (j := j2) (v := u2) (below_set (j := j) (v := u') HL.out HIh.out) HIh.out) Bl.out) 1 (.slice At t.length ct) rfl
        have yzm0 := fun (j : Nat) (u' : Value) (j2 : Nat) (u2 : Value) => (Box.keep (Below.refl _ _) (below_set (j := j2) (v := u2) (below_set (j := j) (v := u') HL.out HIh.out) HIh.out) Bm.out) 0 (.slice Ab b.length cb) rfl
        have yzm1 := fun (j : Nat) (u' : Value) (j2 : Nat) (u2 : Value) => (Box.keep (Below.refl _ _) (below_set (j := j2) (v := u2) (below_set (j := j) (v := u') HL.out HIh.out) HIh.out) Bm.out) 1 (.slice Au u.length cu) rfl
        go_wp2_with (first | (go_at_call 28; refine stop_ ?_) | (go_at_call 17; refine stop_ ?_) | (go_at_call 45; refine stop_ ?_) | (go_at_call 47; refine stop_ ?_) | (go_at_call 48; refine stop_ ?_) | (go_at_call 51; refine stop_ ?_) | (go_at_call 44; refine stop_ ?_) | (go_at_call 46; refine stop_ ?_) | (go_at_call 49; refine stop_ ?_) | (go_at_call 50; refine stop_ ?_) | (go_at_call 52; refine stop_ ?_) | (go_at_call 10; refine stop_ ?_) | (go_at_call 20; refine stop_ ?_) | (go_at_call 36; refine stop_ ?_))
        refine ⟨?_⟩
        clear yh0 yh1 yfh0 yfh1 yzl0 yzl1 yzm0 yzm1
        refine Calls.mono (cTH.out _ (Kd.C_below HRa.out (below_set (below_set HL.out HIh.out) HIh.out)) HCa.out (Kd.C_below HRt.out (below_set (below_set HL.out HIh.out) HIh.out)) HCt.out (Kd.C_below HRb.out (below_set (below_set HL.out HIh.out) HIh.out)) HCb.out (Kd.C_below HRu.out (below_set (below_set HL.out HIh.out) HIh.out)) HCu.out) ?_
        rintro e w76 ⟨v, rfl, hv, hb⟩
        have HLn := Aside0.mk (below_step (show Below W0.heap.size W0 _ from (below_set (below_set HL.out HIh.out) HIh.out)) hb)
        have HOne := Aside0.mk (Kd.R_below (Kd.R_set (Kd.R_set HOe.out HKh.out (by decide) 0 _) (blk_put HKh.out 0 _ rfl) (by decide) 1 _) hb)
        have HOni := Aside0.mk (Kd.R_below (Kd.R_set (Kd.R_set HOi.out HKh.out (by decide) 0 _) (blk_put HKh.out 0 _ rfl) (by decide) 1 _) hb)
        have HKnh : Aside0 (w76.heap[w74.heap.size]? = some (.cells #[.slice Ae r1.length ce, .slice Ai r2.length ci] 48 (0, 0))) := ⟨blk_below (blk_put (blk_put HKh.out 0 _ rfl) 1 _ rfl) hb⟩
        obtain ⟨v1, v2, ev, hv1, hv2⟩ := hv
        subst ev
        obtain ⟨Az, cz, ev⟩ := Kd.R_slice hv1
        subst ev
        obtain ⟨Av, cv, ev⟩ := Kd.R_slice hv2
        subst ev
        have HOz := Aside0.mk (Kd.R_lower hv1 (show Below W0.heap.size W0 _ from (below_set (below_set HL.out HIh.out) HIh.out)).size)
        have HOv := Aside0.mk (Kd.R_lower hv2 (show Below W0.heap.size W0 _ from (below_set (below_set HL.out HIh.out) HIh.out)).size)
        clear hv1 hv2
        clear HL HOe HOi HKh
        have HL := HLn; clear HLn
        have HOe := HOne; clear HOne
        have HOi := HOni; clear HOni
        have HKh := HKnh; clear HKnh
        clear hb
        have HIzz := Aside0.mk (show W0.heap.size ≤ w76.heap.size from HL.out.size)
        go_wp2_with (first | (go_at_call 28; refine stop_ ?_) | (go_at_call 17; refine stop_ ?_) | (go_at_call 45; refine stop_ ?_) | (go_at_call 47; refine stop_ ?_) | (go_at_call 48; refine stop_ ?_) | (go_at_call 51; refine stop_ ?_) | (go_at_call 44; refine stop_ ?_) | (go_at_call 46; refine stop_ ?_) | (go_at_call 49; refine stop_ ?_) | (go_at_call 50; refine stop_ ?_) | (go_at_call 52; refine stop_ ?_) | (go_at_call 10; refine stop_ ?_) | (go_at_call 20; refine stop_ ?_) | (go_at_call 36; refine stop_ ?_))
        refine ⟨?_⟩
        refine Calls.mono (error_true (r := er) (e := codeE er) rfl _ (HG.out.below (below_alloc HL.out _))) ?_
        rintro e w77 ⟨rfl, hb⟩
        have HLn := Aside0.mk (below_step (show Below W0.heap.size W0 _ from (below_alloc HL.out _)) hb)
        have HOne := Aside0.mk (Kd.R_below (Kd.R_alloc HOe.out _) hb)
        have HOni := Aside0.mk (Kd.R_below (Kd.R_alloc HOi.out _) hb)
        have HOnz := Aside0.mk (Kd.R_below (Kd.R_alloc HOz.out _) hb)
        have HOnv := Aside0.mk (Kd.R_below (Kd.R_alloc HOv.out _) hb)
        have HKnh : Aside0 (w77.heap[w74.heap.size]? = some (.cells #[.slice Ae r1.length ce, .slice Ai r2.length ci] 48 (0, 0))) := ⟨blk_below (blk_alloc HKh.out _) hb⟩
        have HKnzz : Aside0 (w77.heap[w76.heap.size]? = some (.cells #[.slice Az r1.length cz, .slice Av r2.length cv] 48 (0, 0))) := ⟨blk_below (blk_new _ _) hb⟩
        clear HL HOe HOi HOz HOv HKh
        have HL := HLn; clear HLn
        have HOe := HOne; clear HOne
        have HOi := HOni; clear HOni
        have HOz := HOnz; clear HOnz
        have HOv := HOnv; clear HOnv
        have HKh := HKnh; clear HKnh
        have HKzz := HKnzz; clear HKnzz
        clear hb
        have yzz0 := ((blk_cell HKzz.out 0).trans (show _ = some (.slice Az r1.length cz) from rfl))
        have yzz1 := ((blk_cell HKzz.out 1).trans (show _ = some (.slice Av r2.length cv) from rfl))
        have yh0 := ((blk_cell HKh.out 0).trans (show _ = some (.slice Ae r1.length ce) from rfl))
        have yh1 := ((blk_cell HKh.out 1).trans (show _ = some (.slice Ai r2.length ci) from rfl))
        go_wp2_with (first | (go_at_call 28; refine stop_ ?_) | (go_at_call 17; refine stop_ ?_) | (go_at_call 45; refine stop_ ?_) | (go_at_call 47; refine stop_ ?_) | (go_at_call 48; refine stop_ ?_) | (go_at_call 51; refine stop_ ?_) | (go_at_call 44; refine stop_ ?_) | (go_at_call 46; refine stop_ ?_) | (go_at_call 49; refine stop_ ?_) | (go_at_call 50; refine stop_ ?_) | (go_at_call 52; refine stop_ ?_) | (go_at_call 10; refine stop_ ?_) | (go_at_call 20; refine stop_ ?_) | (go_at_call 36; refine stop_ ?_))
        refine ⟨?_⟩
        clear yzz0 yzz1 yh0 yh1
        refine Calls.mono (sameL_true rfl rfl Az cz Av cv Ae ce Ai ci _ (Kd.R_reads' HOz.out).2.2 (Kd.R_reads' HOv.out).2.2 (Kd.R_reads' HOe.out).2.2 (Kd.R_reads' HOi.out).2.2) ?_
        rintro e w78 ⟨rfl, hb⟩
        have HLn := Aside0.mk (below_step (show Below W0.heap.size W0 _ from HL.out) hb)
        have HOne := Aside0.mk (Kd.R_below HOe.out hb)
        have HOni := Aside0.mk (Kd.R_below HOi.out hb)
        have HOnz := Aside0.mk (Kd.R_below HOz.out hb)
        have HOnv := Aside0.mk (Kd.R_below HOv.out hb)
        have HKnh : Aside0 (w78.heap[w74.heap.size]? = some (.cells #[.slice Ae r1.length ce, .slice Ai r2.length ci] 48 (0, 0))) := ⟨blk_below HKh.out hb⟩
        have HKnzz : Aside0 (w78.heap[w76.heap.size]? = some (.cells #[.slice Az r1.length cz, .slice Av r2.length cv] 48 (0, 0))) := ⟨blk_below HKzz.out hb⟩
        clear HL HOe HOi HOz HOv HKh HKzz
        have HL := HLn; clear HLn
        have HOe := HOne; clear HOne
        have HOi := HOni; clear HOni
        have HOz := HOnz; clear HOnz
        have HOv := HOnv; clear HOnv
        have HKh := HKnh; clear HKnh
        have HKzz := HKnzz; clear HKnzz
        clear hb
        go_wp2_with (first | (go_at_call 28; refine stop_ ?_) | (go_at_call 17; refine stop_ ?_) | (go_at_call 45; refine stop_ ?_) | (go_at_call 47; refine stop_ ?_) | (go_at_call 48; refine stop_ ?_) | (go_at_call 51; refine stop_ ?_) | (go_at_call 44; refine stop_ ?_) | (go_at_call 46; refine stop_ ?_) | (go_at_call 49; refine stop_ ?_) | (go_at_call 50; refine stop_ ?_) | (go_at_call 52; refine stop_ ?_) | (go_at_call 10; refine stop_ ?_) | (go_at_call 20; refine stop_ ?_) | (go_at_call 36; refine stop_ ?_))
        go_ret
        exact ⟨by first | rfl | (simp; done) | (simp [*]; done) | (simp; omega), below_step (show Below w.heap.size w W0 from HB0.out) ((show Below W0.heap.size W0 _ from HL.out))⟩
      · obtain ⟨nM, kM⟩ := Option.ne_none_iff_exists'.1 qM; have tM := codeE_ne0 kM (layErr_ne (HEM.out.trans kM)); have QM := Aside0.mk kM; clear qM kM
        have hbad := then_bad2 (HEL.out.trans QL.out) (HEM.out.trans QM.out); rw [HT.out] at hbad; have ER : Aside0 (er = em) := ⟨by rw [QM.out]; exact congrArg Prod.snd hbad⟩; have ER1 : Aside0 (r1 = []) := ⟨congrArg (fun z => z.1.1) hbad⟩; have ER2 : Aside0 (r2 = []) := ⟨congrArg (fun z => z.1.2) hbad⟩; clear hbad
        have HIh := Aside0.mk (show W0.heap.size ≤ w74.heap.size from HL.out.size)
        have yol0 := fun (o : Obj) => cell?_alloc_old ((Box.keep (Below.refl _ _) HL.out Bl.out) 0 (.slice Aa a.length ca) rfl) o
        have yol1 := fun (o : Obj) => cell?_alloc_old ((Box.keep (Below.refl _ _) HL.out Bl.out) 1 (.slice At t.length ct) rfl) o
        have yom0 := fun (o : Obj) => cell?_alloc_old ((Box.keep (Below.refl _ _) HL.out Bm.out) 0 (.slice Ab b.length cb) rfl) o
        have yom1 := fun (o : Obj) => cell?_alloc_old ((Box.keep (Below.refl _ _) HL.out Bm.out) 1 (.slice Au u.length cu) rfl) o
        go_wp2_with (first | (go_at_call 28; refine stop_ ?_) | (go_at_call 17; refine stop_ ?_) | (go_at_call 45; refine stop_ ?_) | (go_at_call 47; refine stop_ ?_) | (go_at_call 48; refine stop_ ?_) | (go_at_call 51; refine stop_ ?_) | (go_at_call 44; refine stop_ ?_) | (go_at_call 46; refine stop_ ?_) | (go_at_call 49; refine stop_ ?_) | (go_at_call 50; refine stop_ ?_) | (go_at_call 52; refine stop_ ?_) | (go_at_call 10; refine stop_ ?_) | (go_at_call 20; refine stop_ ?_) | (go_at_call 36; refine stop_ ?_))
        refine ⟨?_⟩
        clear yol0 yol1 yom0 yom1
        refine Calls.mono (cTH.out _ (Kd.C_below HRa.out (below_alloc HL.out _)) HCa.out (Kd.C_below HRt.out (below_alloc HL.out _)) HCt.out (Kd.C_below HRb.out (below_alloc HL.out _)) HCb.out (Kd.C_below HRu.out (below_alloc HL.out _)) HCu.out) ?_
        rintro e w79 ⟨v, rfl, hv, hb⟩
        have HLn := Aside0.mk (below_step (show Below W0.heap.size W0 _ from (below_alloc HL.out _)) hb)
        have HKnh : Aside0 (w79.heap[w74.heap.size]? = some (.cells #[.slice none 0 0, .slice none 0 0] 48 (0, 0))) := ⟨blk_below (blk_new _ _) hb⟩
        obtain ⟨v1, v2, ev, hv1, hv2⟩ := hv
        subst ev
        obtain ⟨Az, cz, ev⟩ := Kd.R_slice hv1
        subst ev
        obtain ⟨Av, cv, ev⟩ := Kd.R_slice hv2
        subst ev
        have HOz := Aside0.mk (Kd.R_lower hv1 (show Below W0.heap.size W0 _ from (below_alloc HL.out _)).size)
        have HOv := Aside0.mk (Kd.R_lower hv2 (show Below W0.heap.size W0 _ from (below_alloc HL.out _)).size)
        clear hv1 hv2
        clear HL
        have HL := HLn; clear HLn
        have HKh := HKnh; clear HKnh
        clear hb
        have HIzz := Aside0.mk (show W0.heap.size ≤ w79.heap.size from HL.out.size)
        go_wp2_with (first | (go_at_call 28; refine stop_ ?_) | (go_at_call 17; refine stop_ ?_) | (go_at_call 45; refine stop_ ?_) | (go_at_call 47; refine stop_ ?_) | (go_at_call 48; refine stop_ ?_) | (go_at_call 51; refine stop_ ?_) | (go_at_call 44; refine stop_ ?_) | (go_at_call 46; refine stop_ ?_) | (go_at_call 49; refine stop_ ?_) | (go_at_call 50; refine stop_ ?_) | (go_at_call 52; refine stop_ ?_) | (go_at_call 10; refine stop_ ?_) | (go_at_call 20; refine stop_ ?_) | (go_at_call 36; refine stop_ ?_))
        refine ⟨?_⟩
        refine Calls.mono (error_true (r := er) (e := codeE em) (congrArg codeE ER.out) _ (HG.out.below (below_alloc HL.out _))) ?_
        rintro e w80 ⟨rfl, hb⟩
        have HLn := Aside0.mk (below_step (show Below W0.heap.size W0 _ from (below_alloc HL.out _)) hb)
        have HOnz := Aside0.mk (Kd.R_below (Kd.R_alloc HOz.out _) hb)
        have HOnv := Aside0.mk (Kd.R_below (Kd.R_alloc HOv.out _) hb)
        have HKnh : Aside0 (w80.heap[w74.heap.size]? = some (.cells #[.slice none 0 0, .slice none 0 0] 48 (0, 0))) := ⟨blk_below (blk_alloc HKh.out _) hb⟩
        have HKnzz : Aside0 (w80.heap[w79.heap.size]? = some (.cells #[.slice Az r1.length cz, .slice Av r2.length cv] 48 (0, 0))) := ⟨blk_below (blk_new _ _) hb⟩
        clear HL HOz HOv HKh
        have HL := HLn; clear HLn
        have HOz := HOnz; clear HOnz
        have HOv := HOnv; clear HOnv
        have HKh := HKnh; clear HKnh
        have HKzz := HKnzz; clear HKnzz
        clear hb
        have yzz0 := ((blk_cell HKzz.out 0).trans (show _ = some (.slice Az r1.length cz) from rfl))
        have yzz1 := ((blk_cell HKzz.out 1).trans (show _ = some (.slice Av r2.length cv) from rfl))
        have yh0 := ((blk_cell HKh.out 0).trans (show _ = some (.slice none 0 0) from rfl))
        have yh1 := ((blk_cell HKh.out 1).trans (show _ = some (.slice none 0 0) from rfl))
        go_wp2_with (first | (go_at_call 28; refine stop_ ?_) | (go_at_call 17; refine stop_ ?_) | (go_at_call 45; refine stop_ ?_) | (go_at_call 47; refine stop_ ?_) | (go_at_call 48; refine stop_ ?_) | (go_at_call 51; refine stop_ ?_) | (go_at_call 44; refine stop_ ?_) | (go_at_call 46; refine stop_ ?_) | (go_at_call 49; refine stop_ ?_) | (go_at_call 50; refine stop_ ?_) | (go_at_call 52; refine stop_ ?_) | (go_at_call 10; refine stop_ ?_) | (go_at_call 20; refine stop_ ?_) | (go_at_call 36; refine stop_ ?_))
        refine ⟨?_⟩
        clear yzz0 yzz1 yh0 yh1
        refine Calls.mono (sameL_true ER1.out ER2.out Az cz Av cv none 0 none 0 _ (Kd.R_reads' HOz.out).2.2 (Kd.R_reads' HOv.out).2.2 (C_none _) (C_none _)) ?_
        rintro e w81 ⟨rfl, hb⟩
        have HLn := Aside0.mk (below_step (show Below W0.heap.size W0 _ from HL.out) hb)
        have HOnz := Aside0.mk (Kd.R_below HOz.out hb)
        have HOnv := Aside0.mk (Kd.R_below HOv.out hb)
        have HKnh : Aside0 (w81.heap[w74.heap.size]? = some (.cells #[.slice none 0 0, .slice none 0 0] 48 (0, 0))) := ⟨blk_below HKh.out hb⟩
        have HKnzz : Aside0 (w81.heap[w79.heap.size]? = some (.cells #[.slice Az r1.length cz, .slice Av r2.length cv] 48 (0, 0))) := ⟨blk_below HKzz.out hb⟩
        clear HL HOz HOv HKh HKzz
        have HL := HLn; clear HLn
        have HOz := HOnz; clear HOnz
        have HOv := HOnv; clear HOnv
        have HKh := HKnh; clear HKnh
        have HKzz := HKnzz; clear HKnzz
        clear hb
        go_wp2_with (first | (go_at_call 28; refine stop_ ?_) | (go_at_call 17; refine stop_ ?_) | (go_at_call 45; refine stop_ ?_) | (go_at_call 47; refine stop_ ?_) | (go_at_call 48; refine stop_ ?_) | (go_at_call 51; refine stop_ ?_) | (go_at_call 44; refine stop_ ?_) | (go_at_call 46; refine stop_ ?_) | (go_at_call 49; refine stop_ ?_) | (go_at_call 50; refine stop_ ?_) | (go_at_call 52; refine stop_ ?_) | (go_at_call 10; refine stop_ ?_) | (go_at_call 20; refine stop_ ?_) | (go_at_call 36; refine stop_ ?_))
        go_ret
        exact ⟨by first | rfl | (simp; done) | (simp [*]; done) | (simp; omega), below_step (show Below w.heap.size w W0 from HB0.out) ((show Below W0.heap.size W0 _ from HL.out))⟩
    · obtain ⟨nL, kL⟩ := Option.ne_none_iff_exists'.1 qL; have tL := codeE_ne0 kL (layErr_ne (HEL.out.trans kL)); have QL := Aside0.mk kL; clear qL kL
      have hbad := betw_bad (HE2.out.trans Q2.out); rw [HP.out] at hbad; have E2P : Aside0 (ep = e2) := ⟨by rw [Q2.out]; exact congrArg Prod.snd hbad⟩; have EP1 : Aside0 (p = []) := ⟨congrArg (fun z => z.1.1) hbad⟩; have EP2 : Aside0 (q = []) := ⟨congrArg (fun z => z.1.2) hbad⟩; clear hbad
      have HIn := Aside0.mk (show W0.heap.size ≤ w67.heap.size from HL.out.size)
      go_wp2_with (first | (go_at_call 28; refine stop_ ?_) | (go_at_call 17; refine stop_ ?_) | (go_at_call 45; refine stop_ ?_) | (go_at_call 47; refine stop_ ?_) | (go_at_call 48; refine stop_ ?_) | (go_at_call 51; refine stop_ ?_) | (go_at_call 44; refine stop_ ?_) | (go_at_call 46; refine stop_ ?_) | (go_at_call 49; refine stop_ ?_) | (go_at_call 50; refine stop_ ?_) | (go_at_call 52; refine stop_ ?_) | (go_at_call 10; refine stop_ ?_) | (go_at_call 20; refine stop_ ?_) | (go_at_call 36; refine stop_ ?_))
      refine ⟨?_⟩
      refine Calls.mono (cBT.out _ (Kd.C_below HRs.out (below_alloc HL.out _)) HCs.out (Kd.C_below HRo.out (below_alloc HL.out _)) HCo.out) ?_
      rintro e w82 ⟨v, rfl, hv, hb⟩
      have HLn := Aside0.mk (below_step (show Below W0.heap.size W0 _ from (below_alloc HL.out _)) hb)
      have HKnn : Aside0 (w82.heap[w67.heap.size]? = some (.cells #[.slice none 0 0, .slice none 0 0] 48 (0, 0))) := ⟨blk_below (blk_new _ _) hb⟩
      obtain ⟨v1, v2, ev, hv1, hv2⟩ := hv
      subst ev
      obtain ⟨Ap, cp, ev⟩ := Kd.R_slice hv1
      subst ev
      obtain ⟨Aq, cq, ev⟩ := Kd.R_slice hv2
      subst ev
      have HOp := Aside0.mk (Kd.R_lower hv1 (show Below W0.heap.size W0 _ from (below_alloc HL.out _)).size)
      have HOq := Aside0.mk (Kd.R_lower hv2 (show Below W0.heap.size W0 _ from (below_alloc HL.out _)).size)
      clear hv1 hv2
      clear HL
      have HL := HLn; clear HLn
      have HKn := HKnn; clear HKnn
      clear hb
      have HIx := Aside0.mk (show W0.heap.size ≤ w82.heap.size from HL.out.size)
      go_wp2_with (first | (go_at_call 28; refine stop_ ?_) | (go_at_call 17; refine stop_ ?_) | (go_at_call 45; refine stop_ ?_) | (go_at_call 47; refine stop_ ?_) | (go_at_call 48; refine stop_ ?_) | (go_at_call 51; refine stop_ ?_) | (go_at_call 44; refine stop_ ?_) | (go_at_call 46; refine stop_ ?_) | (go_at_call 49; refine stop_ ?_) | (go_at_call 50; refine stop_ ?_) | (go_at_call 52; refine stop_ ?_) | (go_at_call 10; refine stop_ ?_) | (go_at_call 20; refine stop_ ?_) | (go_at_call 36; refine stop_ ?_))
      refine ⟨?_⟩
      refine Calls.mono (error_true (r := ep) (e := codeE e2) (congrArg codeE E2P.out) _ (HG.out.below (below_alloc HL.out _))) ?_
      rintro e w83 ⟨rfl, hb⟩
      have HLn := Aside0.mk (below_step (show Below W0.heap.size W0 _ from (below_alloc HL.out _)) hb)
      have HOnp := Aside0.mk (Kd.R_below (Kd.R_alloc HOp.out _) hb)
      have HOnq := Aside0.mk (Kd.R_below (Kd.R_alloc HOq.out _) hb)
      have HKnn : Aside0 (w83.heap[w67.heap.size]? = some (.cells #[.slice none 0 0, .slice none 0 0] 48 (0, 0))) := ⟨blk_below (blk_alloc HKn.out _) hb⟩
      have HKnx : Aside0 (w83.heap[w82.heap.size]? = some (.cells #[.slice Ap p.length cp, .slice Aq q.length cq] 48 (0, 0))) := ⟨blk_below (blk_new _ _) hb⟩
      clear HL HOp HOq HKn
      have HL := HLn; clear HLn
      have HOp := HOnp; clear HOnp
      have HOq := HOnq; clear HOnq
      have HKn := HKnn; clear HKnn
      have HKx := HKnx; clear HKnx
      clear hb
      have yx0 := ((blk_cell HKx.out 0).trans (show _ = some (.slice Ap p.length cp) from rfl))
      have yx1 := ((blk_cell HKx.out 1).trans (show _ = some (.slice Aq q.length cq) from rfl))
      have yn0 := ((blk_cell HKn.out 0).trans (show _ = some (.slice none 0 0) from rfl))
      have yn1 := ((blk_cell HKn.out 1).trans (show _ = some (.slice none 0 0) from rfl))
      go_wp2_with (first | (go_at_call 28; refine stop_ ?_) | (go_at_call 17; refine stop_ ?_) | (go_at_call 45; refine stop_ ?_) | (go_at_call 47; refine stop_ ?_) | (go_at_call 48; refine stop_ ?_) | (go_at_call 51; refine stop_ ?_) | (go_at_call 44; refine stop_ ?_) | (go_at_call 46; refine stop_ ?_) | (go_at_call 49; refine stop_ ?_) | (go_at_call 50; refine stop_ ?_) | (go_at_call 52; refine stop_ ?_) | (go_at_call 10; refine stop_ ?_) | (go_at_call 20; refine stop_ ?_) | (go_at_call 36; refine stop_ ?_))
      refine ⟨?_⟩
      clear yx0 yx1 yn0 yn1
      refine Calls.mono (sameL_true EP1.out EP2.out Ap cp Aq cq none 0 none 0 _ (Kd.R_reads' HOp.out).2.2 (Kd.R_reads' HOq.out).2.2 (C_none _) (C_none _)) ?_
      rintro e w84 ⟨rfl, hb⟩
      have HLn := Aside0.mk (below_step (show Below W0.heap.size W0 _ from HL.out) hb)
      have HOnp := Aside0.mk (Kd.R_below HOp.out hb)
      have HOnq := Aside0.mk (Kd.R_below HOq.out hb)
      have HKnn : Aside0 (w84.heap[w67.heap.size]? = some (.cells #[.slice none 0 0, .slice none 0 0] 48 (0, 0))) := ⟨blk_below HKn.out hb⟩
      have HKnx : Aside0 (w84.heap[w82.heap.size]? = some (.cells #[.slice Ap p.length cp, .slice Aq q.length cq] 48 (0, 0))) := ⟨blk_below HKx.out hb⟩
      clear HL HOp HOq HKn HKx
      have HL := HLn; clear HLn
      have HOp := HOnp; clear HOnp
      have HOq := HOnq; clear HOnq
      have HKn := HKnn; clear HKnn
      have HKx := HKnx; clear HKnx
      clear hb
      clear HOp HOq
      clear HKn
      clear HKx
      have HId := Aside0.mk (show W0.heap.size ≤ w84.heap.size from HL.out.size)
      have yol0 := fun (o : Obj) => cell?_alloc_old ((Box.keep (Below.refl _ _) HL.out Bl.out) 0 (.slice Aa a.length ca) rfl) o
      have yol1 := fun (o : Obj) => cell?_alloc_old ((Box.keep (Below.refl _ _) HL.out Bl.out) 1 (.slice At t.length ct) rfl) o
      go_wp2_with (first | (go_at_call 28; refine stop_ ?_) | (go_at_call 17; refine stop_ ?_) | (go_at_call 45; refine stop_ ?_) | (go_at_call 47; refine stop_ ?_) | (go_at_call 48; refine stop_ ?_) | (go_at_call 51; refine stop_ ?_) | (go_at_call 44; refine stop_ ?_) | (go_at_call 46; refine stop_ ?_) | (go_at_call 49; refine stop_ ?_) | (go_at_call 50; refine stop_ ?_) | (go_at_call 52; refine stop_ ?_) | (go_at_call 10; refine stop_ ?_) | (go_at_call 20; refine stop_ ?_) | (go_at_call 36; refine stop_ ?_))
      refine ⟨?_⟩
      clear yol0 yol1
      refine Calls.mono (cTN.out _ (Kd.C_below HRa.out (below_alloc HL.out _)) HCa.out (Kd.C_below HRt.out (below_alloc HL.out _)) HCt.out) ?_
      rintro e w85 ⟨v, rfl, hv, hb⟩
      have HLn := Aside0.mk (below_step (show Below W0.heap.size W0 _ from (below_alloc HL.out _)) hb)
      have HKnd : Aside0 (w85.heap[w84.heap.size]? = some (.cells #[.slice none 0 0, .slice none 0 0] 48 (0, 0))) := ⟨blk_below (blk_new _ _) hb⟩
      rw [if_neg (by rw [QL.out]; simp), if_neg (by rw [QL.out]; simp)] at hv
      obtain ⟨v1, v2, ev, hv1, hv2⟩ := hv
      subst ev
      obtain ⟨Ak, ck, ev⟩ := Kd.R_slice hv1
      subst ev
      obtain ⟨Aj, cj, ev⟩ := Kd.R_slice hv2
      subst ev
      have HOk := Aside0.mk (Kd.R_lower hv1 (show Below W0.heap.size W0 _ from (below_alloc HL.out _)).size)
      have HOj := Aside0.mk (Kd.R_lower hv2 (show Below W0.heap.size W0 _ from (below_alloc HL.out _)).size)
      clear hv1 hv2
      clear HL
      have HL := HLn; clear HLn
      have HKd := HKnd; clear HKnd
      clear hb
      have HIy := Aside0.mk (show W0.heap.size ≤ w85.heap.size from HL.out.size)
      go_wp2_with (first | (go_at_call 28; refine stop_ ?_) | (go_at_call 17; refine stop_ ?_) | (go_at_call 45; refine stop_ ?_) | (go_at_call 47; refine stop_ ?_) | (go_at_call 48; refine stop_ ?_) | (go_at_call 51; refine stop_ ?_) | (go_at_call 44; refine stop_ ?_) | (go_at_call 46; refine stop_ ?_) | (go_at_call 49; refine stop_ ?_) | (go_at_call 50; refine stop_ ?_) | (go_at_call 52; refine stop_ ?_) | (go_at_call 10; refine stop_ ?_) | (go_at_call 20; refine stop_ ?_) | (go_at_call 36; refine stop_ ?_))
      refine ⟨?_⟩
      refine Calls.mono (error_true (r := el) (e := codeE el) rfl _ (HG.out.below (below_alloc HL.out _))) ?_
      rintro e w86 ⟨rfl, hb⟩
      have HLn := Aside0.mk (below_step (show Below W0.heap.size W0 _ from (below_alloc HL.out _)) hb)
      have HOnk := Aside0.mk (Kd.R_below (Kd.R_alloc HOk.out _) hb)
      have HOnj := Aside0.mk (Kd.R_below (Kd.R_alloc HOj.out _) hb)
      have HKnd : Aside0 (w86.heap[w84.heap.size]? = some (.cells #[.slice none 0 0, .slice none 0 0] 48 (0, 0))) := ⟨blk_below (blk_alloc HKd.out _) hb⟩
      have HKny : Aside0 (w86.heap[w85.heap.size]? = some (.cells #[.slice Ak (([] : List S25)).length ck, .slice Aj (([] : List S25)).length cj] 48 (0, 0))) := ⟨blk_below (blk_new _ _) hb⟩
      clear HL HOk HOj HKd
      have HL := HLn; clear HLn
      have HOk := HOnk; clear HOnk
      have HOj := HOnj; clear HOnj
      have HKd := HKnd; clear HKnd
      have HKy := HKny; clear HKny
      clear hb
      have yy0 := ((blk_cell HKy.out 0).trans (show _ = some (.slice Ak (([] : List S25)).length ck) from rfl))
      have yy1 := ((blk_cell HKy.out 1).trans (show _ = some (.slice Aj (([] : List S25)).length cj) from rfl))
      have yd0 := ((blk_cell HKd.out 0).trans (show _ = some (.slice none 0 0) from rfl))
      have yd1 := ((blk_cell HKd.out 1).trans (show _ = some (.slice none 0 0) from rfl))
      go_wp2_with (first | (go_at_call 28; refine stop_ ?_) | (go_at_call 17; refine stop_ ?_) | (go_at_call 45; refine stop_ ?_) | (go_at_call 47; refine stop_ ?_) | (go_at_call 48; refine stop_ ?_) | (go_at_call 51; refine stop_ ?_) | (go_at_call 44; refine stop_ ?_) | (go_at_call 46; refine stop_ ?_) | (go_at_call 49; refine stop_ ?_) | (go_at_call 50; refine stop_ ?_) | (go_at_call 52; refine stop_ ?_) | (go_at_call 10; refine stop_ ?_) | (go_at_call 20; refine stop_ ?_) | (go_at_call 36; refine stop_ ?_))
      refine ⟨?_⟩
      clear yy0 yy1 yd0 yd1
      refine Calls.mono (sameL_true (l1 := []) (l3 := []) (l2 := []) (l4 := []) rfl rfl Ak ck Aj cj none 0 none 0 _ (Kd.R_reads' HOk.out).2.2 (Kd.R_reads' HOj.out).2.2 (C_none _) (C_none _)) ?_
      rintro e w87 ⟨rfl, hb⟩
      have HLn := Aside0.mk (below_step (show Below W0.heap.size W0 _ from HL.out) hb)
      have HOnk := Aside0.mk (Kd.R_below HOk.out hb)
      have HOnj := Aside0.mk (Kd.R_below HOj.out hb)
      have HKnd : Aside0 (w87.heap[w84.heap.size]? = some (.cells #[.slice none 0 0, .slice none 0 0] 48 (0, 0))) := ⟨blk_below HKd.out hb⟩
      have HKny : Aside0 (w87.heap[w85.heap.size]? = some (.cells #[.slice Ak (([] : List S25)).length ck, .slice Aj (([] : List S25)).length cj] 48 (0, 0))) := ⟨blk_below HKy.out hb⟩
      clear HL HOk HOj HKd HKy
      have HL := HLn; clear HLn
      have HOk := HOnk; clear HOnk
      have HOj := HOnj; clear HOnj
      have HKd := HKnd; clear HKnd
      have HKy := HKny; clear HKny
      clear hb
      clear HOk HOj HKd HKy
      have hbad := then_bad (a' := b) (t' := u) (HEL.out.trans QL.out); rw [HT.out] at hbad; have ER : Aside0 (er = el) := ⟨by rw [QL.out]; exact congrArg Prod.snd hbad⟩; have ER1 : Aside0 (r1 = []) := ⟨congrArg (fun z => z.1.1) hbad⟩; have ER2 : Aside0 (r2 = []) := ⟨congrArg (fun z => z.1.2) hbad⟩; clear hbad
      have HIh := Aside0.mk (show W0.heap.size ≤ w87.heap.size from HL.out.size)
      have yol0 := fun (o : Obj) => cell?_alloc_old ((Box.keep (Below.refl _ _) HL.out Bl.out) 0 (.slice Aa a.length ca) rfl) o
      have yol1 := fun (o : Obj) => cell?_alloc_old ((Box.keep (Below.refl _ _) HL.out Bl.out) 1 (.slice At t.length ct) rfl) o
      have yom0 := fun (o : Obj) => cell?_alloc_old ((Box.keep (Below.refl _ _) HL.out Bm.out) 0 (.slice Ab b.length cb) rfl) o
      have yom1 := fun (o : Obj) => cell?_alloc_old ((Box.keep (Below.refl _ _) HL.out Bm.out) 1 (.slice Au u.length cu) rfl) o
      go_wp2_with (first | (go_at_call 28; refine stop_ ?_) | (go_at_call 17; refine stop_ ?_) | (go_at_call 45; refine stop_ ?_) | (go_at_call 47; refine stop_ ?_) | (go_at_call 48; refine stop_ ?_) | (go_at_call 51; refine stop_ ?_) | (go_at_call 44; refine stop_ ?_) | (go_at_call 46; refine stop_ ?_) | (go_at_call 49; refine stop_ ?_) | (go_at_call 50; refine stop_ ?_) | (go_at_call 52; refine stop_ ?_) | (go_at_call 10; refine stop_ ?_) | (go_at_call 20; refine stop_ ?_) | (go_at_call 36; refine stop_ ?_))
      refine ⟨?_⟩
      clear yol0 yol1 yom0 yom1
      refine Calls.mono (cTH.out _ (Kd.C_below HRa.out (below_alloc HL.out _)) HCa.out (Kd.C_below HRt.out (below_alloc HL.out _)) HCt.out (Kd.C_below HRb.out (below_alloc HL.out _)) HCb.out (Kd.C_below HRu.out (below_alloc HL.out _)) HCu.out) ?_
      rintro e w88 ⟨v, rfl, hv, hb⟩
      have HLn := Aside0.mk (below_step (show Below W0.heap.size W0 _ from (below_alloc HL.out _)) hb)
      have HKnh : Aside0 (w88.heap[w87.heap.size]? = some (.cells #[.slice none 0 0, .slice none 0 0] 48 (0, 0))) := ⟨blk_below (blk_new _ _) hb⟩
      obtain ⟨v1, v2, ev, hv1, hv2⟩ := hv
      subst ev
      obtain ⟨Az, cz, ev⟩ := Kd.R_slice hv1
      subst ev
      obtain ⟨Av, cv, ev⟩ := Kd.R_slice hv2
      subst ev
      have HOz := Aside0.mk (Kd.R_lower hv1 (show Below W0.heap.size W0 _ from (below_alloc HL.out _)).size)
      have HOv := Aside0.mk (Kd.R_lower hv2 (show Below W0.heap.size W0 _ from (below_alloc HL.out _)).size)
      clear hv1 hv2
      clear HL
      have HL := HLn; clear HLn
      have HKh := HKnh; clear HKnh
      clear hb
      have HIzz := Aside0.mk (show W0.heap.size ≤ w88.heap.size from HL.out.size)
      go_wp2_with (first | (go_at_call 28; refine stop_ ?_) | (go_at_call 17; refine stop_ ?_) | (go_at_call 45; refine stop_ ?_) | (go_at_call 47; refine stop_ ?_) | (go_at_call 48; refine stop_ ?_) | (go_at_call 51; refine stop_ ?_) | (go_at_call 44; refine stop_ ?_) | (go_at_call 46; refine stop_ ?_) | (go_at_call 49; refine stop_ ?_) | (go_at_call 50; refine stop_ ?_) | (go_at_call 52; refine stop_ ?_) | (go_at_call 10; refine stop_ ?_) | (go_at_call 20; refine stop_ ?_) | (go_at_call 36; refine stop_ ?_))
      refine ⟨?_⟩
      refine Calls.mono (error_true (r := er) (e := codeE el) (congrArg codeE ER.out) _ (HG.out.below (below_alloc HL.out _))) ?_
      rintro e w89 ⟨rfl, hb⟩
      have HLn := Aside0.mk (below_step (show Below W0.heap.size W0 _ from (below_alloc HL.out _)) hb)
      have HOnz := Aside0.mk (Kd.R_below (Kd.R_alloc HOz.out _) hb)
      have HOnv := Aside0.mk (Kd.R_below (Kd.R_alloc HOv.out _) hb)
      have HKnh : Aside0 (w89.heap[w87.heap.size]? = some (.cells #[.slice none 0 0, .slice none 0 0] 48 (0, 0))) := ⟨blk_below (blk_alloc HKh.out _) hb⟩
      have HKnzz : Aside0 (w89.heap[w88.heap.size]? = some (.cells #[.slice Az r1.length cz, .slice Av r2.length cv] 48 (0, 0))) := ⟨blk_below (blk_new _ _) hb⟩
      clear HL HOz HOv HKh
      have HL := HLn; clear HLn
      have HOz := HOnz; clear HOnz
      have HOv := HOnv; clear HOnv
      have HKh := HKnh; clear HKnh
      have HKzz := HKnzz; clear HKnzz
      clear hb
      have yzz0 := ((blk_cell HKzz.out 0).trans (show _ = some (.slice Az r1.length cz) from rfl))
      have yzz1 := ((blk_cell HKzz.out 1).trans (show _ = some (.slice Av r2.length cv) from rfl))
      have yh0 := ((blk_cell HKh.out 0).trans (show _ = some (.slice none 0 0) from rfl))
      have yh1 := ((blk_cell HKh.out 1).trans (show _ = some (.slice none 0 0) from rfl))
      go_wp2_with (first | (go_at_call 28; refine stop_ ?_) | (go_at_call 17; refine stop_ ?_) | (go_at_call 45; refine stop_ ?_) | (go_at_call 47; refine stop_ ?_) | (go_at_call 48; refine stop_ ?_) | (go_at_call 51; refine stop_ ?_) | (go_at_call 44; refine stop_ ?_) | (go_at_call 46; refine stop_ ?_) | (go_at_call 49; refine stop_ ?_) | (go_at_call 50; refine stop_ ?_) | (go_at_call 52; refine stop_ ?_) | (go_at_call 10; refine stop_ ?_) | (go_at_call 20; refine stop_ ?_) | (go_at_call 36; refine stop_ ?_))
      refine ⟨?_⟩
      clear yzz0 yzz1 yh0 yh1
      refine Calls.mono (sameL_true ER1.out ER2.out Az cz Av cv none 0 none 0 _ (Kd.R_reads' HOz.out).2.2 (Kd.R_reads' HOv.out).2.2 (C_none _) (C_none _)) ?_
      rintro e w90 ⟨rfl, hb⟩
      have HLn := Aside0.mk (below_step (show Below W0.heap.size W0 _ from HL.out) hb)
      have HOnz := Aside0.mk (Kd.R_below HOz.out hb)
      have HOnv := Aside0.mk (Kd.R_below HOv.out hb)
      have HKnh : Aside0 (w90.heap[w87.heap.size]? = some (.cells #[.slice none 0 0, .slice none 0 0] 48 (0, 0))) := ⟨blk_below HKh.out hb⟩
      have HKnzz : Aside0 (w90.heap[w88.heap.size]? = some (.cells #[.slice Az r1.length cz, .slice Av r2.length cv] 48 (0, 0))) := ⟨blk_below HKzz.out hb⟩
      clear HL HOz HOv HKh HKzz
      have HL := HLn; clear HLn
      have HOz := HOnz; clear HOnz
      have HOv := HOnv; clear HOnv
      have HKh := HKnh; clear HKnh
      have HKzz := HKnzz; clear HKnzz
      clear hb
      go_wp2_with (first | (go_at_call 28; refine stop_ ?_) | (go_at_call 17; refine stop_ ?_) | (go_at_call 45; refine stop_ ?_) | (go_at_call 47; refine stop_ ?_) | (go_at_call 48; refine stop_ ?_) | (go_at_call 51; refine stop_ ?_) | (go_at_call 44; refine stop_ ?_) | (go_at_call 46; refine stop_ ?_) | (go_at_call 49; refine stop_ ?_) | (go_at_call 50; refine stop_ ?_) | (go_at_call 52; refine stop_ ?_) | (go_at_call 10; refine stop_ ?_) | (go_at_call 20; refine stop_ ?_) | (go_at_call 36; refine stop_ ?_))
      go_ret
      exact ⟨by first | rfl | (simp; done) | (simp [*]; done) | (simp; omega), below_step (show Below w.heap.size w W0 from HB0.out) ((show Below W0.heap.size W0 _ from HL.out))⟩
end Go.Proofs.YtdjamphmndbmjaaGreatDoor.M

/- What a law is handed, in plain words: a term, a triple, a row of triples. -/
namespace Go.Proofs.YtdjamphmndbmjaaGreatDoor.M
open Go.RowKit Go.Proofs.YtdjamphmndbmjaaGreatDoorW.PrintWords Go.Proofs.YtdjamphmndbmjaaGreatDoorW.PrintLast Go.Proofs.YtdjamphmndbmjaaGreatDoorW.PrintMore
set_option linter.unusedVariables false
set_option linter.unusedSimpArgs false

set_option maxRecDepth 100000
open Go.Deep
section
variable {H : Type} {enc : TypeId × Value → H} {w : World} {base : Nat} {spare : Nat → Bool} {held : Bool}
theorem cells_int : Tryz.prog.cellsOf 3 = 1 := by kernel_rfl
theorem cells_str : Tryz.prog.cellsOf 9 = 1 := by kernel_rfl
theorem cells_TM : Tryz.prog.cellsOf 23 = 3 := by kernel_rfl
theorem cells_TR : Tryz.prog.cellsOf 25 = 9 := by kernel_rfl
theorem open_TM {fuel : Nat} {cs : List Value} {x : DataW H × List MemPlace} (h : DataW.trod enc Tryz.prog w base spare held fuel 23 cs = some x) :
    ∃ s : S23, cs = [.int .i64 s.f0, .string s.f1, .string s.f2] := by
  obtain ⟨y0, y1, y2, n, _, hl, h0, h1, h2⟩ := trod_struct3 Tryz.underlying23 h
  rw [cells_TM] at hl
  match cs, hl with
  | [a, b, c], _ =>
    simp only [cells_int, cells_str] at h0 h1 h2
    obtain ⟨i, e0, _, _⟩ := DataW.trod_int Tryz.underlying3 h0
    obtain ⟨s1, e1, _, _⟩ := DataW.trod_string Tryz.underlying9 h1
    obtain ⟨s2, e2, _, _⟩ := DataW.trod_string Tryz.underlying9 h2
    simp at e0 e1 e2
    exact ⟨⟨i, s1, s2⟩, by rw [e0, e1, e2]⟩
theorem open_TR {fuel : Nat} {cs : List Value} {x : DataW H × List MemPlace} (h : DataW.trod enc Tryz.prog w base spare held fuel 25 cs = some x) :
    ∃ s : S25, cs = [.int .i64 s.f0.f0, .string s.f0.f1, .string s.f0.f2, .int .i64 s.f1.f0, .string s.f1.f1, .string s.f1.f2, .int .i64 s.f2.f0, .string s.f2.f1, .string s.f2.f2] := by
  obtain ⟨y0, y1, y2, n, _, hl, h0, h1, h2⟩ := trod_struct3 Tryz.underlying25 h
  rw [cells_TR] at hl
  match cs, hl with
  | [a0, a1, a2, a3, a4, a5, a6, a7, a8], _ =>
    simp only [cells_TM] at h0 h1 h2
    obtain ⟨s0, e0⟩ := open_TM h0
    obtain ⟨s1, e1⟩ := open_TM h1
    obtain ⟨s2, e2⟩ := open_TM h2
    simp at e0 e1 e2
    obtain ⟨rfl, rfl, rfl⟩ := e0
    obtain ⟨rfl, rfl, rfl⟩ := e1
    obtain ⟨rfl, rfl, rfl⟩ := e2
    exact ⟨⟨s0, s1, s2⟩, rfl⟩
theorem open_row {A : Option Addr} {len cap : Nat} {d : DataW H} {ps : List MemPlace} (h : DataW.Trod enc Tryz.prog w base spare held 26 (.slice A len cap) d ps) :
    ∃ l : List S25, l.length = len ∧ Kd.C k25 w A l.length l ∧ l.length ≤ cap := by
  obtain ⟨fuel, hf⟩ := h
  rcases open_slice Tryz.underlying26 hf with ⟨hcs, _⟩ | ⟨a, l, c, m, n, D, Pl, hcs, _, hl, hm, hmm, _, hx⟩
  · simp [Value.cells] at hcs
    obtain ⟨rfl, rfl, rfl⟩ := hcs
    exact ⟨[], rfl, ⟨rfl, by simp, fun h => absurd h (Nat.lt_irrefl 0)⟩, Nat.le_refl _⟩
  · simp [Value.cells] at hcs
    obtain ⟨rfl, rfl, rfl⟩ := hcs
    haveI : Inhabited S25 := ⟨z25⟩
    have hlm : len ≤ m := by rw [hmm]; split <;> omega
    rw [cells_TR] at hx
    obtain ⟨V, hV⟩ := choose_lt (α := S25) (n := len) (p := fun i s => ∀ q u, [Value.int .i64 s.f0.f0, .string s.f0.f1, .string s.f0.f2, .int .i64 s.f1.f0, .string s.f1.f1, .string s.f1.f2, .int .i64 s.f2.f0, .string s.f2.f1, .string s.f2.f2][q]? = some u → w.cell? (a.add (i * 9 + q)) = some u) (fun i hi => by
      obtain ⟨cs', h1, h2⟩ := hx i (by omega)
      obtain ⟨s, rfl⟩ := open_TR h2
      obtain ⟨_, hlen, hc⟩ := World.cells?_some h1
      refine ⟨s, fun q u hq => ?_⟩
      have hq9 : q < 9 := by
        rcases Nat.lt_or_ge q 9 with h | h
        · exact h
        · rw [List.getElem?_eq_none (by simpa using h)] at hq; cases hq
      rw [← Go.Deep.add_add, hc q hq9]
      exact hq)
    refine ⟨(List.range len).map V, by simp, ?_, by simpa using hl⟩
    refine ⟨rfl, by simp [maxLen] at hm ⊢; omega, fun hp => ⟨a, rfl, fun j p hj => ?_⟩⟩
    have hjl : j < len := by
      rcases Nat.lt_or_ge j len with h | h
      · exact h
      · rw [List.getElem?_eq_none (by simpa using h)] at hj; cases hj
    have hpj : V j = p := by simpa [hjl] using hj
    subst hpj
    exact ⟨_, rfl, k25_mk w (V j), fun i u hu => hV j hjl i u hu⟩
end
end Go.Proofs.YtdjamphmndbmjaaGreatDoor.M

/- What a law is handed, in plain words: a layer. -/
namespace Go.Proofs.YtdjamphmndbmjaaGreatDoor.M
open Go.RowKit Go.Proofs.YtdjamphmndbmjaaGreatDoorW.PrintWords Go.Proofs.YtdjamphmndbmjaaGreatDoorW.PrintLast Go.Proofs.YtdjamphmndbmjaaGreatDoorW.PrintMore
set_option linter.unusedVariables false
set_option linter.unusedSimpArgs false

set_option maxRecDepth 100000
open Go.Deep
section
variable {H : Type} {enc : TypeId × Value → H} {w : World} {base : Nat} {spare : Nat → Bool} {held : Bool}
theorem cells_TRS : Tryz.prog.cellsOf 26 = 1 := by kernel_rfl
theorem open_cell {fuel : Nat} {cs : List Value} {x : DataW H × List MemPlace} (h : DataW.trod enc Tryz.prog w base spare held fuel 26 cs = some x) :
    ∃ A c, ∃ l : List S25, cs = [.slice A l.length c] ∧ l.length ≤ c ∧ Kd.C k25 w A l.length l := by
  obtain ⟨d, ps⟩ := x
  rcases open_slice Tryz.underlying26 h with ⟨hcs, _⟩ | ⟨a, l, c, m, n, D, Pl, hcs, _⟩
  · subst hcs
    exact ⟨none, 0, [], rfl, Nat.le_refl _, C_none w⟩
  · subst hcs
    obtain ⟨l', hl, hC, hle⟩ := open_row (A := some a) (len := l) (cap := c) ⟨fuel, h⟩
    exact ⟨some a, c, l', by rw [hl], hle, hC⟩
theorem cells_LY : Tryz.prog.cellsOf 48 = 2 := by kernel_rfl
theorem open_LY {fuel : Nat} {cs : List Value} {x : DataW H × List MemPlace} (h : DataW.trod enc Tryz.prog w base spare held fuel 48 cs = some x) :
    ∃ A c, ∃ l : List S25, ∃ A' c', ∃ l' : List S25, cs = [.slice A l.length c, .slice A' l'.length c'] ∧ l.length ≤ c ∧ Kd.C k25 w A l.length l ∧ l'.length ≤ c' ∧ Kd.C k25 w A' l'.length l' := by
  obtain ⟨y0, y1, n, _, hl, h0, h1⟩ := Go.ChangeShapes.trod_struct2 Tryz.underlying48 h
  rw [cells_LY] at hl
  match cs, hl with
  | [a, b], _ =>
    simp only [cells_TRS] at h0 h1
    obtain ⟨A, c, l, e0, g0, q0⟩ := open_cell h0
    obtain ⟨A', c', l', e1, g1, q1⟩ := open_cell h1
    simp at e0 e1
    exact ⟨A, c, l, A', c', l', by rw [e0, e1], g0, q0, g1, q1⟩
theorem open_layer {v : Value} {r : Reach} {b0 : Nat} {d : DataW H} {ps : List MemPlace} (hval : Value.okWide Tryz.prog w r b0 48 v) (h : DataW.Trod enc Tryz.prog w base spare held 48 v d ps) :
    ∃ A c, ∃ l : List S25, ∃ A' c', ∃ l' : List S25, v = .agg #[.slice A l.length c, .slice A' l'.length c'] ∧ Kd.C k25 w A l.length l ∧ l.length ≤ c ∧ Kd.C k25 w A' l'.length l' ∧ l'.length ≤ c' := by
  obtain ⟨cs, rfl, _⟩ := Go.WideShapes.okWide_struct Tryz.underlying48 hval
  obtain ⟨fuel, hf⟩ := h
  obtain ⟨A, c, l, A', c', l', hs, g0, q0, g1, q1⟩ := open_LY hf
  refine ⟨A, c, l, A', c', l', ?_, q0, g0, q1, g1⟩
  have : cs = (cs.toList).toArray := by simp
  have e : cs.toList = _ := hs
  rw [this, e]
end
end Go.Proofs.YtdjamphmndbmjaaGreatDoor.M

/- The row of the law LayerTells and its tied card: what it is handed is opened, the walk does the rest (printed by wip/gencard.py). -/
namespace Go.Proofs.YtdjamphmndbmjaaGreatDoor.layerTells
open Go.ChangeShapes Go.WideShapes Go.ChangeAt Go.RowKit
set_option linter.unusedVariables false
theorem own : ownKnob Tryz.prog.godebug = none := by kernel_rfl
theorem laidOut : laidOutB Tryz.prog = true := by kernel_rfl
theorem et : Tryz.prog.globalNamed "errors.errorType" = some 0 := by kernel_rfl
theorem rt : (Tryz.prog.cutTypes.find? (·.1 == "internal/reflectlite.rtype")).map (·.2) = some 253 := by kernel_rfl
theorem oneRow : ((List.range 373).filter fun t => Tryz.prog.rowNamed t [101, 114, 114, 111, 114]) = [30] := by kernel_rfl
theorem tsize : Tryz.prog.types.size = 373 := by kernel_rfl
/-- What the condition gives a walk: the variable's one cell. -/
theorem handle_of_laid {W : World} (h : laidMetH Tryz.prog [("errors.errorType", Rows.laid_errors_errorType)] W) : M.Glob W := by
  have h' : laidMet Tryz.prog [] W ∧ handlesMet Tryz.prog [("errors.errorType", Rows.laid_errors_errorType)] W := h
  obtain ⟨name, u, ty, e1, e2, e3, e4, e5⟩ := h'.2 _ (List.mem_singleton.2 rfl)
  have en : name = [101, 114, 114, 111, 114] := (Option.some.inj e1).symm
  subst en
  obtain rfl := Option.some.inj (rt.symm.trans e2)
  have hm : ty ∈ (List.range 373).filter fun t => Tryz.prog.rowNamed t [101, 114, 114, 111, 114] := List.mem_filter.2 ⟨List.mem_range.2 (by rw [← tsize]; exact e3), e4⟩
  rw [oneRow] at hm
  obtain rfl := List.mem_singleton.1 hm
  have hh : typeHandle Tryz.prog 30 = .pointer (some ⟨2, 30, none⟩) := by kernel_rfl
  rw [hh] at e5
  unfold M.Glob
  simpa using World.var?_cell et e5 0
/-- A world that meets the condition: the settled one, the variable's cell laid. -/
noncomputable def laidWorld (os : Os) : World :=
  let w0 := World.holding Tryz.prog os ⟨#[], #[], []⟩
  { w0 with heap := w0.heap.modify 0 fun
      | .cells _ t frozen => .cells #[.iface 253 (.agg #[.pointer (some ⟨2, 30, none⟩)])] t frozen
      | o => o }
theorem laidWorld_met (os : Os) (args : Array Value) : laidMetH Tryz.prog [("errors.errorType", Rows.laid_errors_errorType)] ((laidWorld os).forCall (fun _ _ => 0) ⟨#[], args, []⟩).memory :=
  laidMetH_of_parts (laidMet_nil _ _) (by kernel_rfl)
set_option maxRecDepth 100000 in
theorem lifted (os : Os) (started : os.Started) (H : Type) (enc : TypeId × Value → H) :
    ReturnsInHanded {} Tryz.checked os 6 .any (fun w args => (Rows.layerTellsSpec.pre enc Tryz.prog Tryz.f6 Rows.layerTellsRow.domain false w args ∧ laidMetH Tryz.prog [("errors.errorType", Rows.laid_errors_errorType)] w) ∧ sizedMet enc Tryz.prog Tryz.f6 (OpenSpec.ofChange Rows.layerTellsSpec) false w args) (Rows.layerTellsSpec.post enc Tryz.prog Tryz.f6 false true false false) := by
  refine returnsInHanded_of_change_and (C := Tryz.checked) (X := fun w _ => laidMetH Tryz.prog [("errors.errorType", Rows.laid_errors_errorType)] w) (fun _ _ _ hh h => h.of_heap hh) own started (by kernel_rfl) Tryz.func6
    (ChangeSpec.witness_at (enc := enc) (C := Tryz.checked) (os := os) (X := fun w _ => laidMetH Tryz.prog [("errors.errorType", Rows.laid_errors_errorType)] w) false (laidWorld os) #[.slice none 0 0, .agg #[.slice none 0 0, .slice none 0 0], .agg #[.slice none 0 0, .slice none 0 0], .slice none 0 0] 8 rfl (by kernel_rfl) (by kernel_rfl) (by kernel_rfl) (by kernel_rfl) (by kernel_rfl) (laidWorld_met os _)) ?_
  intro W base args ds gs before hval0 hW hcnd hsz0 hLaid _
  have hval : ∀ (j : Nat) t v, Tryz.f6.params[j]? = some t → args[j]? = some v → Value.okWide Tryz.prog W .any base t v := hval0
  have hg := handle_of_laid hLaid
  have hW' := hW
  obtain ⟨p, q, hA0, hV, rfl, hfz, hnd⟩ := hW
  have hA : DataW.TrodAll enc Tryz.prog W 0 (fun _ => true) true Tryz.f6.params.toList args.toList ds p := hA0
  rw [Tryz.params6] at hA hval
  obtain ⟨v0, vs0, d0, ds0, p0, q0, hargs, rfl, rfl, h0, r0⟩ := trodAll_cons hA
  obtain ⟨v1, vs1, d1, ds1, p1, q1, rfl, rfl, rfl, h1, r1⟩ := trodAll_cons r0
  obtain ⟨v2, vs2, d2, ds2, p2, q2, rfl, rfl, rfl, h2, r2⟩ := trodAll_cons r1
  obtain ⟨v3, vs3, d3, ds3, p3, q3, rfl, rfl, rfl, h3, r3⟩ := trodAll_cons r2
  obtain ⟨rfl, rfl, rfl⟩ := trodAll_nil r3
  obtain rfl : args = #[v0, v1, v2, v3] := by cases args; simp_all
  obtain ⟨rfl, rfl⟩ := trodVars_none hV
  have k0 := h0
  have lt0 : ∀ x ∈ p0, x.block < W.heap.size := by obtain ⟨m, hm⟩ := k0; exact DataW.trod_lt m _ _ _ hm
  obtain ⟨A0, len0, c0, rfl⟩ := okWide_slice Tryz.underlying26 (hval 0 26 v0 rfl rfl)
  obtain ⟨l0, rfl, hC0, hL0⟩ := M.open_row h0
  have k1 := h1
  have lt1 : ∀ x ∈ p1, x.block < W.heap.size := by obtain ⟨m, hm⟩ := k1; exact DataW.trod_lt m _ _ _ hm
  obtain ⟨A1a, c1a, l1a, A1b, c1b, l1b, rfl, hC1a, hL1a, hC1b, hL1b⟩ := M.open_layer (hval 1 48 v1 rfl rfl) h1
  have k2 := h2
  have lt2 : ∀ x ∈ p2, x.block < W.heap.size := by obtain ⟨m, hm⟩ := k2; exact DataW.trod_lt m _ _ _ hm
  obtain ⟨A2a, c2a, l2a, A2b, c2b, l2b, rfl, hC2a, hL2a, hC2b, hL2b⟩ := M.open_layer (hval 2 48 v2 rfl rfl) h2
  have k3 := h3
  have lt3 : ∀ x ∈ p3, x.block < W.heap.size := by obtain ⟨m, hm⟩ := k3; exact DataW.trod_lt m _ _ _ hm
  obtain ⟨A3, len3, c3, rfl⟩ := okWide_slice Tryz.underlying26 (hval 3 26 v3 rfl rfl)
  obtain ⟨l3, rfl, hC3, hL3⟩ := M.open_row h3
  clear hA0 hval0 hsz0 hLaid
  refine (M.layerTells_walk A0 c0 l0 A1a c1a l1a A1b c1b l1b A2a c2a l2a A2b c2b l2b A3 c3 l3 W hC0 hL0 hC1a hL1a hC1b hL1b hC2a hL2a hC2b hL2b hC3 hL3 hg).mono fun e W' ⟨he, bel⟩ => ?_
  subst he
  exact ⟨_, rfl, _, _, _, [], _, [], hW', trodAll_mk1 (shut_bool Tryz.underlying4 _), ⟨_, _, (Below.trod laidOut (by kernel_rfl) (of_decide_eq_true (by kernel_rfl)) k0 bel lt0), ⟨_, _, (Below.trod laidOut (by kernel_rfl) (of_decide_eq_true (by kernel_rfl)) k1 bel lt1), ⟨_, _, (Below.trod laidOut (by kernel_rfl) (of_decide_eq_true (by kernel_rfl)) k2 bel lt2), ⟨_, _, (Below.trod laidOut (by kernel_rfl) (of_decide_eq_true (by kernel_rfl)) k3 bel lt3), rfl, rfl⟩, rfl⟩, rfl⟩, rfl⟩, rfl, bel.frame _, fun h => by cases h⟩
theorem over : Rows.layerTellsRow.holds Tryz.pinned (OpenSpec.ofChange Rows.layerTellsSpec) :=
  OpenClaim.holds_of_wide 6 Tryz.f6 rfl rfl rfl rfl rfl rfl rfl ⟨rfl, rfl, rfl, rfl, rfl⟩ rfl rfl rfl rfl rfl (by kernel_rfl) Tryz.func6 (by kernel_rfl)
    (of_decide_eq_true (by kernel_rfl)) (by unfold Func.isWrapper; first | (rw [if_pos (by decide +kernel)]; kernel_rfl) | (rw [if_neg (by decide +kernel)]; exact ⟨rfl, rfl⟩))
    (fun os started H enc _ => lifted os started H enc)
theorem proved : Rows.LayerTellsCardSaid :=
  Claim7.holds_tied_plain_at .later [] [.handle] true Rows.layerTellsCard.stood.harness true
    over (fun _ h => by cases h) (by kernel_rfl) (fun _ h => by cases h) layerTells_row_tie rfl ⟨rfl, rfl⟩ (by kernel_rfl) rfl
    (fun f fn hf hfn => by
      obtain rfl : f = 6 := Option.some.inj ((show Tryz.prog.funcNamed "strataweb/stratalaw1.LayerTells" = some 6 by kernel_rfl).symm.trans hf) |>.symm
      obtain rfl : fn = Tryz.f6 := (Option.some.inj (Tryz.func6.symm.trans hfn)).symm
      exact ⟨by kernel_rfl, fun j t ht => by
        rw [Tryz.params6] at ht
        rcases j with _ | _ | _ | _ | j
        · obtain rfl : t = 26 := by simpa using ht.symm
          exact (show Tryz.prog.wantsStandIn 26 = false by kernel_rfl)
        · obtain rfl : t = 48 := by simpa using ht.symm
          exact (show Tryz.prog.wantsStandIn 48 = false by kernel_rfl)
        · obtain rfl : t = 48 := by simpa using ht.symm
          exact (show Tryz.prog.wantsStandIn 48 = false by kernel_rfl)
        · obtain rfl : t = 26 := by simpa using ht.symm
          exact (show Tryz.prog.wantsStandIn 26 = false by kernel_rfl)
        · simp at ht⟩)
    (by kernel_rfl)
end Go.Proofs.YtdjamphmndbmjaaGreatDoor.layerTells
namespace Go.Proofs.YtdjamphmndbmjaaGreatDoor
/-- The tied card, under a short name, for the claim. -/
theorem layerTells_holds : Rows.LayerTellsCardSaid := layerTells.proved
end Go.Proofs.YtdjamphmndbmjaaGreatDoor
