/- slices.SortFunc at []api.Triple under triple.Compare: the shelf's contract, turned to the words of rows of the call's own. -/
import Derived.Test.YtdjamphmndbmjaaXdel
import Derived.Test.YtdjamphmndbmjaaXbs
import Derived.Test.YtdjamphmndbmjaaXsort
import Derived.Shelf.SlSortCmp.NoneTotal
namespace Go.Proofs.Ytdjamphmndbmjaa.M
open Go.RowKit Go.Proofs.YtdjamphmndbmjaaW.PrintWords Go.Proofs.YtdjamphmndbmjaaW.PrintLast Go.Proofs.YtdjamphmndbmjaaW.PrintMore
set_option linter.unusedVariables false
set_option linter.unusedSimpArgs false

open Go.Sort Go.Shelf Go.Lib
instance : Inhabited S41 := ⟨z41⟩
/-- The triples of a list, sorted. -/
def sortL (l : List S41) : List S41 := l.mergeSort fun x y => !(ltOf cmpR) y x
theorem swoR : SWO (ltOf cmpR) where
  irrefl x := by unfold ltOf; rw [(lawR.zero x x).2 rfl]; rfl
  trans x y z h1 h2 := by
    unfold ltOf at *
    rw [decide_eq_true_eq] at *
    exact lawR.trans x y z h1 h2
  ntrans x y z h1 h2 := by
    unfold ltOf at *
    rw [decide_eq_false_iff_not] at *
    intro h3
    have a1 := lawR.anti x y; have a2 := lawR.anti y z; have a3 := lawR.anti x z
    rcases Int.lt_trichotomy (cmpR x y) 0 with h | h | h
    · exact h1 h
    · rw [(lawR.zero x y).1 h] at h3
      exact h2 h3
    · have := lawR.trans y x z (by omega) h3
      exact h2 this
theorem totR (x y : S41) (h1 : ltOf cmpR x y = false) (h2 : ltOf cmpR y x = false) : x = y := by
  unfold ltOf at *
  rw [decide_eq_false_iff_not] at *
  have := lawR.anti x y
  exact (lawR.zero x y).1 (by omega)
theorem encR_len (x : S41) : (encR x).length = 9 := rfl
theorem encR_one (x : S41) : ∀ v ∈ encR x, v.oneCell' = true := by
  intro q hq
  simp only [encR, List.mem_cons, List.not_mem_nil, or_false] at hq
  rcases hq with rfl | rfl | rfl | rfl | rfl | rfl | rfl | rfl | rfl <;> rfl
theorem layR (blk off size : Nat) (w : World) : CmpLays Try.prog 46 #[] encR 9 cmpR blk off size w := fun _ _ _ _ x y => compareR_grown x y _

theorem flat_seg (d : Array S41) (j : Nat) (hj : j < d.size) : ((flatK encR 9 d).toList.drop (j * 9)).take 9 = encR d[j]! := by
  have hs : (flatK encR 9 d).size = d.size * 9 := by simp
  apply List.ext_getElem
  · simp [hs, encR_len]; omega
  · intro t h1 h2
    rw [encR_len] at h2
    have ht : j * 9 + t < d.size * 9 := by omega
    have hg := get_flatK encR 9 d (j * 9 + t) ht
    rw [show (j * 9 + t) / 9 = j by omega, show (j * 9 + t) % 9 = t by omega] at hg
    rw [getElem!_pos (flatK encR 9 d) (j * 9 + t) (by rw [hs]; exact ht), getElem!_pos (encR d[j]!) t (by rw [encR_len]; exact h2)] at hg
    rw [List.getElem_take, List.getElem_drop, ← hg]
    rfl
theorem flat_reps {w : World} {base : Nat} {ok : Nat → Prop} (l : List S41) : Reps (Kd.M k41 w base ok) 9 l (flatK encR 9 l.toArray).toList := by
  refine ⟨by simp, fun j p hj => ?_⟩
  have hlt : j < l.length := by
    rcases Nat.lt_or_ge j l.length with h | h
    · exact h
    · rw [List.getElem?_eq_none h] at hj; cases hj
  have := flat_seg l.toArray j (by simpa using hlt)
  rw [this]
  have hp : l.toArray[j]! = p := by
    rw [getElem!_pos l.toArray j (by simpa using hlt)]
    simp [List.getElem?_eq_getElem hlt] at hj
    simpa using hj
  rw [hp]
  exact k41_mkM _ _ _ p

theorem flat_at (l : List S41) (j c : Nat) (hj : j < l.length) (hc : c < 9) : (flatK encR 9 l.toArray)[j * 9 + c]! = (encR l[j])[c]! := by
  rw [get_flatK encR 9 l.toArray (j * 9 + c) (by simp; omega), show (j * 9 + c) / 9 = j by omega, show (j * 9 + c) % 9 = c by omega, getElem!_pos l.toArray j (by simpa using hj)]
  simp
theorem holdsR {w : World} {base gb n cap : Nat} {l : List S41} (h : Kd.R k41 41 w base (fun _ => True) (.slice (some ⟨gb, 0, none⟩) n cap) l) : HoldsK encR 9 w gb 0 l.toArray := by
  obtain ⟨cur, hcur, _, _⟩ := own_block h
  intro t ht
  have ht' : t < l.length * 9 := by simpa using ht
  rw [Nat.zero_add]
  refine ⟨?_, blk_frozen hcur _⟩
  have hj : t / 9 < l.length := by omega
  have hc : t % 9 < 9 := Nat.mod_lt _ (by decide)
  have e : t = t / 9 * 9 + t % 9 := by omega
  rw [e, flat_at l (t / 9) (t % 9) hj hc]
  obtain ⟨h0, h1, h2, h3, h4, h5, h6, h7, h8⟩ := own_cells h (t / 9) hj
  generalize t % 9 = c at hc ⊢
  rcases c with _ | _ | _ | _ | _ | _ | _ | _ | _ | c
  · exact h0
  · exact h1
  · exact h2
  · exact h3
  · exact h4
  · exact h5
  · exact h6
  · exact h7
  · exact h8
  · omega
theorem sortL_length (l : List S41) : (sortL l).length = l.length := List.length_mergeSort _
theorem setMany_all (F G : Array Value) (h : G.size = F.size) : setMany F 0 G.toList = G := by
  refine ext_get! (by simp [h]) fun t ht => ?_
  have ht' : t < F.size := by simpa using ht
  rw [get_setMany _ _ _ t ht', if_pos ⟨Nat.zero_le _, by simp; omega⟩, Nat.sub_zero]
  rw [getElem!_pos G.toList t (by simp; omega), getElem!_pos G t (by omega)]
  simp
/-- The row, sorted, in the world that the sort leaves. -/
theorem sorted_own {w : World} {base gb n cap : Nat} {l l' : List S41} (h : Kd.R k41 41 w base (fun _ => True) (.slice (some ⟨gb, 0, none⟩) n cap) l) (hl : l'.length = l.length) (m : Nat) (os : Array Obj) :
    Kd.R k41 41 (sortWorldK encR 9 w gb 0 m l'.toArray os) base (fun _ => True) (.slice (some ⟨gb, 0, none⟩) n cap) l' ∧ Below base w (sortWorldK encR 9 w gb 0 m l'.toArray os) ∧ w.heap.size ≤ (sortWorldK encR 9 w gb 0 m l'.toArray os).heap.size := by
  have hbase : base ≤ gb := Kd.R_base h gb rfl
  have hlt : gb < w.heap.size := Kd.R_lt h gb rfl
  have hH := holdsR h
  have hw : sortWorldK encR 9 w gb 0 m l'.toArray os = grow (((Sort.ahead w m)).setCells gb 0 (flatK encR 9 l'.toArray).toList) os := by
    unfold sortWorldK putRowK
    have h1 : putRow id (Sort.ahead w m) gb 0 (flatK encR 9 l.toArray) = Sort.ahead w m := putRow_self id (Sort.ahead w m) gb 0 _ hH
    have h2 := setCells_putRow (Sort.ahead w m) gb 0 (flatK encR 9 l'.toArray).toList 0 (flatK encR 9 l.toArray) (by simp [hl])
    rw [h1, setMany_all _ _ (by simp [hl])] at h2
    rw [← h2]
  rw [hw]
  obtain ⟨h0, inner, ⟨hm, hown⟩, hr⟩ := h
  rcases hown with ⟨hv, _⟩ | ⟨g', cap', cur, hv, hb, hh, hnc, hcm, hcs, htk⟩
  · cases hv
  · injection hv with ha hn hc
    injection ha with ha
    injection ha with hg
    subst hg; subst hc
    have hlen : (flatK encR 9 l'.toArray).toList.length = l'.length * 9 := by simp
    obtain ⟨cur', h1, h2, h3⟩ := setCells_row (flatK encR 9 l'.toArray).toList 0 (Sort.ahead w m) cur hh (by rw [hlen, hcs]; have : k41.sz = 9 := rfl; rw [this]; omega)
    obtain ⟨s1, s2, s3, s4⟩ := setCells_same gb (flatK encR 9 l'.toArray).toList 0 (Sort.ahead w m)
    have hgl : gb < ((Sort.ahead w m).setCells gb 0 (flatK encR 9 l'.toArray).toList).heap.size := by rw [s4]; exact hlt
    refine ⟨⟨h0, (flatK encR 9 l'.toArray).toList, ⟨by rw [hlen]; rfl, .inr ⟨gb, cap, cur', by rw [hn, hl], hb, ?_, by omega, hcm, by rw [h2, hcs], ?_⟩⟩, flat_reps l'⟩, ?_, ?_⟩
    · show (_ ++ os)[gb]? = _
      rw [Array.getElem?_append_left hgl]
      exact h1
    · rw [h3, List.take_zero, List.nil_append, List.take_append_of_le_length (by rw [hlen]; exact Nat.le_refl _)]
      exact List.take_of_length_le (by rw [hlen]; exact Nat.le_refl _)
    · refine ⟨s1, s2, s3, ?_, fun k hk => ?_⟩
      · show _ ≤ (_ ++ os).size
        rw [Array.size_append, s4]
        exact Nat.le_add_right _ _
      · show (_ ++ os)[k]? = _
        rw [Array.getElem?_append_left (by omega)]
        exact setCells_far _ _ k (by omega)
    · show _ ≤ (_ ++ os).size
      rw [Array.size_append, s4]
      exact Nat.le_add_right _ _
theorem srt_calls (base : Nat) (A : Option Addr) (cap : Nat) (l : List S41) (w : World) (hr : Kd.R k41 41 w base (fun _ => True) (.slice A l.length cap) l) (hl : l.length < 4611686018427387904) :
    Calls Try.prog 88 #[.slice A l.length cap, .func (.func 46) #[] #[]] w fun e w' =>
      e = .returned (.tuple #[]) ∧ Kd.R k41 41 w' base (fun _ => True) (.slice A l.length cap) (sortL l) ∧ Below base w w' ∧ w.heap.size ≤ w'.heap.size := by
  rcases Nat.eq_zero_or_pos l.length with h0 | hp
  · obtain rfl := List.eq_nil_of_length_eq_zero h0
    have hcon := AnyF.slices_SortFunc_none (P := Try.prog) (ρ := Try.sortR_ren) { Try.sortR with } A cap (.func (.func 46) #[] #[]) w
    refine Calls.mono hcon ?_
    rintro e w' ⟨rfl, rfl⟩
    exact ⟨rfl, by unfold sortL; rw [List.mergeSort_nil]; exact hr, Below.refl _ _, Nat.le_refl _⟩
  · obtain ⟨gb, cap', hv, _⟩ := Kd.R_form hr hp
    injection hv with ha _ hc
    subst ha; subst hc
    have eg : ∀ args w, (callFunc 46 args).run Try.prog w = .ok (.enter 46 args) w := enters_of Try.func46 (by kernel_rfl) rfl
    have hcon := AnyQ.slices_SortFunc_total Try.sortR 9 Try.isAgg41 Try.sizeOf41 encR encR_len encR_one cmpR swoR 46 #[] gb 0 cap l.toArray w eg (layR gb 0 l.toArray.size w) (holdsR hr) (Kd.R_lt hr gb rfl) (by simpa using hl) totR
    rw [List.size_toArray] at hcon
    refine Calls.mono hcon ?_
    rintro e w' ⟨rfl, n, os, rfl⟩
    exact ⟨rfl, sorted_own hr (sortL_length l) n os⟩
end Go.Proofs.Ytdjamphmndbmjaa.M
