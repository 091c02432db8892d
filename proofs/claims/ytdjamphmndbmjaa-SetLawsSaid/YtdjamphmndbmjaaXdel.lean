/- slices.IndexFunc and slices.DeleteFunc at []api.Triple, under any function that answers a plain question of a triple. By hand. -/
import Derived.Test.YtdjamphmndbmjaaXclone
import Derived.Test.YtdjamphmndbmjaaXord
import Derived.Shelf.Abstract
namespace Go.Proofs.Ytdjamphmndbmjaa.M
open Go.RowKit Go.Proofs.YtdjamphmndbmjaaW.PrintWords Go.Proofs.YtdjamphmndbmjaaW.PrintLast Go.Proofs.YtdjamphmndbmjaaW.PrintMore
set_option linter.unusedVariables false
set_option linter.unusedSimpArgs false

theorem alloc_size1 (W : World) (o : Obj) : (W.alloc o).heap.size = W.heap.size + 1 := Array.size_push _
theorem stop_ {p : Prop} (h : Aside0 p) : p := h.out
/-- The value of a triple. -/
def aggR (x : S41) : Value := .agg #[.int .i64 x.f0.f0, .string x.f0.f1, .string x.f0.f2, .int .i64 x.f1.f0, .string x.f1.f1, .string x.f1.f2, .int .i64 x.f2.f0, .string x.f2.f1, .string x.f2.f2]
/-- Its cells. -/
def celR (x : S41) : Array Value := #[.int .i64 x.f0.f0, .string x.f0.f1, .string x.f0.f2, .int .i64 x.f1.f0, .string x.f1.f1, .string x.f1.f2, .int .i64 x.f2.f0, .string x.f2.f1, .string x.f2.f2]
/-- A function value answers a question of a triple, at any world that keeps what lies below. -/
def Asks (g : Nat) (lb : Array Value) (p : S41 → Bool) (base : Nat) (w0 : World) : Prop :=
  ∀ (x : S41) (W : World), base ≤ W.heap.size → Below base w0 W → Calls Try.prog g (#[aggR x] ++ lb) W fun e w' => e = .returned (.bool (p x)) ∧ Below W.heap.size W w'

def firstAt (p : S41 → Bool) (l : List S41) (i : Nat) : Prop := i ≤ l.length ∧ (∀ k (h : k < l.length), k < i → p l[k] = false) ∧ (∀ h : i < l.length, p l[i] = true)

set_option maxHeartbeats 4000000 in
set_option maxRecDepth 100000 in
theorem idxR_calls (g : Nat) (lb : Array Value) (p : S41 → Bool) (base : Nat) (w0 : World) (A : Option Addr) (cap : Nat) (l : List S41) (w : World)
    (eg : ∀ args w, (callFunc g args).run Try.prog w = .ok (.enter g args) w) (hr : Kd.C k41 w A l.length l) (hb : Below base w0 w) (hbase : base ≤ w.heap.size)
    (hq : Asks g lb p base w0) :
    Calls Try.prog 93 #[.slice A l.length cap, .func (.func g) #[] lb] w fun e w' => (∃ i : Nat, firstAt p l i ∧ e = .returned (.int .i64 (if i < l.length then (i : Int) else -1))) ∧ Below w.heap.size w w' := by
  have HR := Aside0.mk hr
  have HQ := Aside0.mk hq
  have HB0 := Aside0.mk hb
  have HBASE := Aside0.mk hbase
  have hbig : l.length ≤ 9223372036854775807 := by have := hr.2.1; simpa [maxLen] using this
  clear hr hq hb hbase
  go_enter Try.func93, Try.ntmps93
  go_wp2
  go_loopg [5, 8] l.length (fun gg _ s8 wr => ∃ kk : Nat, kk ≤ l.length ∧ l.length - kk ≤ gg ∧ s8 = .int .i64 kk ∧ Aside0 (Below w.heap.size w wr) ∧ Aside0 (∀ k (h : k < l.length), k < kk → p l[k] = false))
  case atStart => exact ⟨0, Nat.zero_le _, by omega, rfl, ⟨Below.refl _ _⟩, ⟨fun k _ hk => absurd hk (Nat.not_lt_zero _)⟩⟩
  case round =>
    obtain ⟨kk, hkk, hg, rfl, HB, HA⟩ := hrel
    by_cases hlt : kk < l.length
    · have hltz : (kk : Int) < (l.length : Int) := by omega
      obtain ⟨ad, e0, h0, h1, h2, h3, h4, h5, h6, h7, h8⟩ := at_T41 (Kd.C_below HR.out HB.out) (kk : Int) (by omega) (by omega)
      subst e0
      rw [rd_T41_at l kk hlt] at h0 h1 h2 h3 h4 h5 h6 h7 h8
      rw [Int.toNat_natCast] at h0 h1 h2 h3 h4 h5 h6 h7 h8
      have hcall := HQ.out l[kk]
      have hpx := Aside0.mk (fun (b : Bool) (hb : p l[kk] = b) => hb)
      generalize hy : p l[kk] = y at hcall
      have HY := Aside0.mk hy
      clear hy hpx
      unfold aggR at hcall
      generalize l[kk] = x at h0 h1 h2 h3 h4 h5 h6 h7 h8 hcall
      have HC := Aside0.mk hcall
      clear hcall
      cases y with
      | true =>
        go_wp2_with (go_at_fn g; refine (HC.out _ (Nat.le_trans HBASE.out HB.out.size) (HB0.out.trans (HB.out.mono HBASE.out))).mono ?_; rintro e w' ⟨rfl, hbb⟩; have HB1 := Aside0.mk hbb; clear hbb)
        go_ret
        exact ⟨⟨kk, ⟨hkk, HA.out, fun _ => HY.out⟩, by rw [if_pos hlt]; rfl⟩, below_step HB.out HB1.out⟩
      | false =>
        go_wp2_with (go_at_fn g; refine (HC.out _ (Nat.le_trans HBASE.out HB.out.size) (HB0.out.trans (HB.out.mono HBASE.out))).mono ?_; rintro e w' ⟨rfl, hbb⟩; have HB1 := Aside0.mk hbb; clear hbb)
        go_roundg (l.length - (kk + 1))
        case measure => omega
        case rel =>
          refine ⟨kk + 1, by omega, by omega, by go_num, ⟨below_step HB.out HB1.out⟩, ⟨fun k h hk => ?_⟩⟩
          by_cases e : k = kk
          · subst e
            exact HY.out
          · exact HA.out k h (by omega)
    · have hltz : ¬ (kk : Int) < (l.length : Int) := by omega
      obtain rfl : kk = l.length := by omega
      go_wp2
      go_ret
      exact ⟨⟨l.length, ⟨Nat.le_refl _, HA.out, fun h => absurd h (Nat.lt_irrefl _)⟩, by rw [if_neg (Nat.lt_irrefl _)]; rfl⟩, HB.out⟩

/-- The own row in another world, its block's cells up to the row's length the same. -/
theorem own_again {w : World} {base g i cap : Nat} {l : List S41} (h : Kd.R k41 41 w base (fun _ => True) (.slice (some ⟨g, 0, none⟩) i cap) l) (vs : List Value) (o : Nat) (ho : i * 9 ≤ o) (hfit : o + vs.length ≤ cap * 9) :
    Kd.R k41 41 (w.setCells g o vs) base (fun _ => True) (.slice (some ⟨g, 0, none⟩) i cap) l := by
  obtain ⟨h0, inner, ⟨hm, hown⟩, hr⟩ := h
  refine ⟨h0, inner, ⟨hm, ?_⟩, ?_⟩
  · rcases hown with ⟨hv, _⟩ | ⟨g', cap', cur, hv, hb, hh, hnc, hcm, hcs, htk⟩
    · cases hv
    · injection hv with ha hn hc
      injection ha with ha
      injection ha with hg
      subst hg; subst hc
      obtain ⟨cur', h1, h2, h3⟩ := setCells_row vs o w cur hh (by rw [hcs]; exact hfit)
      refine .inr ⟨g, cap, cur', by rw [hn], hb, h1, by omega, hcm, by rw [h2, hcs], ?_⟩
      have hle : l.length * k41.sz ≤ o := by rw [← hn]; exact ho
      have ho2 : o ≤ cur.toList.length := by rw [Array.length_toList, hcs]; have : cap * k41.sz = cap * 9 := rfl; omega
      rw [h3, List.append_assoc, List.take_append_of_le_length (by rw [List.length_take]; omega), List.take_take, Nat.min_eq_left hle]
      exact htk
  · exact hr.imp_ (fun x cs hx => by obtain rfl := k41_openM hx; exact k41_mkM _ _ _ x)

theorem clear_none (w : World) (ty : TypeId) (A : Option Addr) (c : Nat) : (Builtin.clear_ #[26] ty #[.slice A 0 c]).run Try.prog w = .ok (.tuple #[]) w := by
  cases A <;> simp [Builtin.clear_, run_underlying Try.underlying26]
theorem clear_run {P : Program} (w : World) (t e ty : TypeId) (z : Value) (ht : P.underlying t = some (.slice e)) (hv : ∀ w, (zeroValue e).run P w = .ok z w) (hz : z.cells.size = 9) (h1 : ∀ j : Nat, Value.oneCell' (z.cells[j]!) = true) (b o n c : Nat) (hn : 0 < n)
    (hc : ∀ j, j < n * 9 → (w.cell? ⟨b, o + j, none⟩).isSome = true) (hf : ∀ j, j < n * 9 → w.frozen? ⟨b, o + j, none⟩ = false) :
    (Builtin.clear_ #[t] ty #[.slice (some ⟨b, o, none⟩) n c]).run P w = .ok (.tuple #[]) (w.setCells b o (Builtin.zeroCells z.cells n).toList) := by
  have hlen : (Builtin.zeroCells z.cells n).toList.length = n * 9 := by simp [Builtin.zeroCells, hz]
  have hst := run_storeCells_cells (P := P) b o (Builtin.zeroCells z.cells n).toList 0 w (by rw [hlen]; simpa using hc) (by rw [hlen]; simpa using hf) (by
    intro v hv'
    simp only [Builtin.zeroCells, Array.toList_map, List.mem_map] at hv'
    obtain ⟨i, _, rfl⟩ := hv'
    exact h1 _)
  simp only [Nat.add_zero] at hst
  obtain ⟨m, rfl⟩ : ∃ m, n = m + 1 := ⟨n - 1, by omega⟩
  simp [Builtin.clear_, run_underlying ht, hv, hst]
theorem own_block {w : World} {base gb n cap : Nat} {m : List S41} (h : Kd.R k41 41 w base (fun _ => True) (.slice (some ⟨gb, 0, none⟩) n cap) m) :
    ∃ cur, w.heap[gb]? = some (.cells cur 41 (0, 0)) ∧ cur.size = cap * 9 ∧ n ≤ cap := by
  obtain ⟨h0, inner, ⟨hm, hown⟩, hr⟩ := h
  rcases hown with ⟨hv, _⟩ | ⟨g', cap', cur, hv, hb, hh, hnc, hcm, hcs, htk⟩
  · cases hv
  · injection hv with ha hn hc
    injection ha with ha
    injection ha with hg
    subst hg; subst hc
    exact ⟨cur, hh, hcs, by omega⟩
theorem zeroR : ∀ w, (zeroValue 41).run Try.prog w = .ok (.agg #[(.int .i64 0), (.string ⟨#[]⟩), (.string ⟨#[]⟩), (.int .i64 0), (.string ⟨#[]⟩), (.string ⟨#[]⟩), (.int .i64 0), (.string ⟨#[]⟩), (.string ⟨#[]⟩)]) w := by
  intro w
  obtain ⟨i, hi, hz⟩ := Option.map_eq_some_iff.1 xinfoT
  have h0 := congrArg Prod.fst hz
  simp only at h0
  simp [zeroValue, typeInfo, hi, h0]
theorem find_first {p : S41 → Bool} {l : List S41} {i : Nat} (h : firstAt p l i) : l.findIdx p = i := by
  obtain ⟨h1, h2, h3⟩ := h
  rcases Nat.lt_or_ge i l.length with h | h
  · exact (List.findIdx_eq h).2 ⟨h3 h, fun j hj => h2 j (by omega) hj⟩
  · obtain rfl : i = l.length := by omega
    exact List.findIdx_eq_length.2 fun x hx => by
      obtain ⟨k, hk, rfl⟩ := List.getElem_of_mem hx
      exact h2 k hk hk
theorem idxR_first (g : Nat) (lb : Array Value) (p : S41 → Bool) (base : Nat) (w0 : World) (A : Option Addr) (cap : Nat) (l : List S41) (w : World)
    (eg : ∀ args w, (callFunc g args).run Try.prog w = .ok (.enter g args) w) (hr : Kd.C k41 w A l.length l) (hb : Below base w0 w) (hbase : base ≤ w.heap.size)
    (hq : Asks g lb p base w0) :
    Calls Try.prog 93 #[.slice A l.length cap, .func (.func g) #[] lb] w fun e w' => e = .returned (.int .i64 (if l.findIdx p < l.length then ((l.findIdx p : Nat) : Int) else -1)) ∧ Below w.heap.size w w' :=
  (idxR_calls g lb p base w0 A cap l w eg hr hb hbase hq).mono fun e w' ⟨⟨i, hi, he⟩, hb⟩ => ⟨by rw [he, find_first hi], hb⟩

theorem take_one {α : Type} (l : List α) (i : Nat) (h : i < l.length) : l.take (i + 1) = l.take i ++ [l[i]] := by
  rw [List.take_add_one, List.getElem?_eq_getElem h]; rfl
theorem del_start {l : List S41} {p : S41 → Bool} {i : Nat} (h : i < l.length) (hi : l.findIdx p = i) : l.take i = (l.take (i + 1)).filter fun x => !p x := by
  obtain ⟨h1, h2⟩ := (List.findIdx_eq h).1 hi
  rw [take_one l i h, List.filter_append, List.filter_cons_of_neg (by simp [h1]), List.filter_nil, List.append_nil, eq_comm, List.filter_eq_self]
  intro x hx
  obtain ⟨k, hk, rfl⟩ := List.getElem_of_mem hx
  rw [List.length_take] at hk
  rw [List.getElem_take, h2 k (by omega)]
  rfl
theorem del_at {l m : List S41} {j : Nat} (hm : m.length = l.length) (h : j < l.length) (hd : m.drop j = l.drop j) : m[j]'(by omega) = l[j] ∧ m.drop (j + 1) = l.drop (j + 1) := by
  have h1 := List.drop_eq_getElem_cons (l := m) (i := j) (by omega)
  have h2 := List.drop_eq_getElem_cons (l := l) (i := j) h
  rw [hd, h2] at h1
  injection h1 with h1 h3
  exact ⟨h1.symm, h3.symm⟩

theorem own_cells {w : World} {base gb n cap : Nat} {m : List S41} (h : Kd.R k41 41 w base (fun _ => True) (.slice (some ⟨gb, 0, none⟩) n cap) m) (j : Nat) (hj : j < m.length) :
    w.cell? ⟨gb, j * 9, none⟩ = some (.int .i64 m[j].f0.f0) ∧ w.cell? ⟨gb, j * 9 + 1, none⟩ = some (.string m[j].f0.f1) ∧ w.cell? ⟨gb, j * 9 + 2, none⟩ = some (.string m[j].f0.f2) ∧ w.cell? ⟨gb, j * 9 + 3, none⟩ = some (.int .i64 m[j].f1.f0) ∧ w.cell? ⟨gb, j * 9 + 4, none⟩ = some (.string m[j].f1.f1) ∧ w.cell? ⟨gb, j * 9 + 5, none⟩ = some (.string m[j].f1.f2) ∧ w.cell? ⟨gb, j * 9 + 6, none⟩ = some (.int .i64 m[j].f2.f0) ∧ w.cell? ⟨gb, j * 9 + 7, none⟩ = some (.string m[j].f2.f1) ∧ w.cell? ⟨gb, j * 9 + 8, none⟩ = some (.string m[j].f2.f2) := by
  obtain ⟨ad, e0, hc⟩ := at_T41 (Kd.R_reads' h).2.2 (j : Int) (by omega) (by omega)
  injection e0 with e0
  subst e0
  have ha : Addr.add ⟨gb, 0, none⟩ (j * 9) = ⟨gb, j * 9, none⟩ := by simp [Addr.add]; intro h; omega
  rw [rd_T41_at m j hj, Int.toNat_natCast, ha] at hc
  exact hc

set_option maxHeartbeats 8000000 in
set_option maxRecDepth 100000 in
theorem delR_calls (g : Nat) (lb : Array Value) (p : S41 → Bool) (base : Nat) (w0 : World) (A : Option Addr) (cap : Nat) (l : List S41) (w : World)
    (eg : ∀ args w, (callFunc g args).run Try.prog w = .ok (.enter g args) w) (hr : Kd.R k41 41 w base (fun _ => True) (.slice A l.length cap) l) (hb : Below base w0 w) (hbase : base ≤ w.heap.size)
    (hq : Asks g lb p base w0) :
    Calls Try.prog 70 #[.slice A l.length cap, .func (.func g) #[] lb] w fun e w' => (∃ v, e = .returned v ∧ Kd.R k41 41 w' base (fun _ => True) v (l.filter fun x => !p x)) ∧ Below base w0 w' ∧ w.heap.size ≤ w'.heap.size := by
  have hidx := idxR_first g lb p base w0 A cap l w eg (Kd.R_reads' hr).2.2 hb hbase hq
  have hcl : l.length ≤ cap := (Kd.R_reads' hr).2.1
  have hcap : cap ≤ 9223372036854775807 := by
    obtain ⟨inner, _, hown⟩ := Kd.R_own hr
    rcases hown with ⟨hv, _⟩ | ⟨g', cap', cur, hv, _, _, _, hcm, _⟩
    · injection hv with _ _ hc; omega
    · injection hv with _ _ hc; subst hc; simpa [maxLen] using hcm
  have HR := Aside0.mk hr
  have HQ := Aside0.mk hq
  have HB0 := Aside0.mk hb
  have HBASE := Aside0.mk hbase
  clear hr hq hb hbase
  by_cases hex : l.findIdx p < l.length
  · rw [if_pos hex] at hidx
    obtain ⟨gb, rfl⟩ : ∃ gb, A = some (⟨gb, 0, none⟩ : Addr) := by
      obtain ⟨g', c', hv, _⟩ := Kd.R_form HR.out (by omega)
      injection hv with ha
      exact ⟨g', ha⟩
    obtain ⟨i0, hi0⟩ : ∃ i0, l.findIdx p = i0 := ⟨_, rfl⟩
    rw [hi0] at hidx hex
    have HI0 := Aside0.mk hi0
    clear hi0
    have hGB : base ≤ gb := Kd.R_base HR.out gb rfl
    go_enter Try.func70, Try.ntmps70
    go_wp2_with (go_at_call 93; refine hidx.mono ?_; rintro e w' ⟨rfl, hbb⟩; have HB1 := Aside0.mk hbb; clear hbb)
    go_loopg [5, 6, 7] l.length (fun gg s5 s6 _ wr => ∃ (i j : Nat) (m : List S41), i ≤ j ∧ j ≤ l.length ∧ l.length - j ≤ gg ∧ s5 = .int .i64 i ∧ s6 = .int .i64 j ∧ Aside0 (Kd.R k41 41 wr base (fun _ => True) (.slice (some ⟨gb, 0, none⟩) l.length cap) m) ∧ Aside0 (m.take i = (l.take j).filter fun x => !p x) ∧ Aside0 (m.drop j = l.drop j) ∧ Aside0 (Below base w0 wr ∧ w.heap.size ≤ wr.heap.size))
    case atStart =>
      exact ⟨i0, i0 + 1, l, by omega, by omega, by omega, rfl, by go_num, ⟨Kd.R_below HR.out HB1.out⟩, ⟨del_start hex HI0.out⟩, ⟨rfl⟩, ⟨HB0.out.trans (HB1.out.mono HBASE.out), HB1.out.size⟩⟩
    case round =>
      obtain ⟨i, j, m, hij, hjn, hgg, rfl, rfl, HM, HT, HD, HB⟩ := hrel
      have hml : m.length = l.length := (Kd.R_reads' HM.out).1.symm
      by_cases hlt : j < l.length
      · have hltz : (j : Int) < (l.length : Int) := by omega
        obtain ⟨hmj, hdj⟩ := del_at hml hlt HD.out
        obtain ⟨h0, h1, h2, h3, h4, h5, h6, h7, h8⟩ := own_cells HM.out j (by omega)
        rw [hmj] at h0 h1 h2 h3 h4 h5 h6 h7 h8
        have hcall := HQ.out l[j]
        obtain ⟨y, hy⟩ : ∃ y, p l[j] = y := ⟨_, rfl⟩
        rw [hy] at hcall
        have HY := Aside0.mk hy
        clear hy
        have HMJ := Aside0.mk hmj
        have HDJ := Aside0.mk hdj
        clear hmj hdj
        unfold aggR at hcall
        obtain ⟨x, hx⟩ : ∃ x, l[j] = x := ⟨_, rfl⟩
        rw [hx] at h0 h1 h2 h3 h4 h5 h6 h7 h8 hcall
        have HX := Aside0.mk hx
        clear hx
        have HC := Aside0.mk hcall
        clear hcall
        have hbW : Below base w0 (wr.alloc (.cells (celR x) 41)) := HB.out.1.alloc (Nat.le_trans HBASE.out HB.out.2) _
        have hbs : base ≤ (wr.alloc (.cells (celR x) 41)).heap.size := by have := HB.out.2; have := HBASE.out; rw [alloc_size1]; omega
        have HBW := Aside0.mk hbW
        have HBS := Aside0.mk hbs
        clear hbW hbs
        cases y with
        | true =>
          go_wp2_with (go_at_fn g; refine (HC.out _ HBS.out HBW.out).mono ?_; rintro e w' ⟨rfl, hbb⟩; have HB2 := Aside0.mk hbb; clear hbb)
          go_roundg (l.length - (j + 1))
          case measure => omega
          case rel =>
            refine ⟨i, j + 1, m, by omega, by omega, Nat.le_refl _, rfl, by go_num, ⟨Kd.R_below (Kd.R_alloc HM.out _) HB2.out⟩, ⟨?_⟩, ⟨HDJ.out⟩, ⟨HBW.out.trans (HB2.out.mono HBS.out), ?_⟩⟩
            · rw [take_one l j hlt, List.filter_append, List.filter_cons_of_neg (by rw [HY.out]; simp), List.filter_nil, List.append_nil]
              exact HT.out
            · have h1 := HB2.out.size
              have h2 := HB.out.2
              rw [alloc_size1] at h1
              omega
        | false =>
          go_wp2_with (first | (go_at_fn g; refine (HC.out _ HBS.out HBW.out).mono ?_; rintro e w' ⟨rfl, hbb⟩; have HB2 := Aside0.mk hbb; have hcell := fun (c : Nat) (v : Value) (h : (celR x)[c]? = some v) => (Below.cell hbb (p := ⟨wr.heap.size, c, none⟩) (by rw [alloc_size1]; exact Nat.lt_succ_self _)).trans ((blk_cell (blk_new wr (.cells (celR x) 41)) c).trans h); have b0 := hcell 0 (.int .i64 x.f0.f0) rfl; have b1 := hcell 1 (.string x.f0.f1) rfl; have b2 := hcell 2 (.string x.f0.f2) rfl; have b3 := hcell 3 (.int .i64 x.f1.f0) rfl; have b4 := hcell 4 (.string x.f1.f1) rfl; have b5 := hcell 5 (.string x.f1.f2) rfl; have b6 := hcell 6 (.int .i64 x.f2.f0) rfl; have b7 := hcell 7 (.string x.f2.f1) rfl; have b8 := hcell 8 (.string x.f2.f2) rfl; clear hcell; have hs1 := own_cells (Kd.R_below (Kd.R_alloc HM.out _) hbb) i (by omega); have HS1 := Aside0.mk hs1; clear hs1; clear hbb) | ((with_reducible refine gate_store (t := 41) (p := 33) rfl ?_); refine stop_ ?_))
          refine ⟨?_⟩
          refine Kd.R_store k41 (w0 := w0) (o' := i * 9) base rfl rfl 41 (.tmp 33) (.tmp 32) rfl 41 (i : Int) 0 m x (aggR x) (celR x).toList (celR (m[i]'(by omega))).toList (fun _ => True) (fun _ => False) rfl rfl rfl rfl ?at_ ?a1 (Kd.R_below (Kd.R_alloc HM.out _) HB2.out) ?a0 ?ai rfl ?acc ?aj ?aM (fun _ h => h.elim) (HBW.out.trans (HB2.out.mono HBS.out)) ?_
          case at_ => obtain ⟨i, hi, hz⟩ := Option.map_eq_some_iff.1 xinfoT; have h0 := congrArg (fun q => q.2.1) hz; rw [hi]; exact congrArg some h0
          case a1 => intro q hq; simp only [celR, List.mem_cons, List.not_mem_nil, or_false] at hq; rcases hq with rfl | rfl | rfl | rfl | rfl | rfl | rfl | rfl | rfl <;> rfl
          case a0 => omega
          case ai => omega
          case acc =>
            obtain ⟨s0, s1, s2, s3, s4, s5, s6, s7, s8⟩ := HS1.out
            intro j u hu
            rw [Int.toNat_natCast]
            rcases j with _ | _ | _ | _ | _ | _ | _ | _ | _ | j
            · exact s0.trans hu
            · exact s1.trans hu
            · exact s2.trans hu
            · exact s3.trans hu
            · exact s4.trans hu
            · exact s5.trans hu
            · exact s6.trans hu
            · exact s7.trans hu
            · exact s8.trans hu
            · cases hu
          case aj => exact Nat.le_refl _
          case aM => exact k41_mkM _ _ _ x
          intro w3 hM3 hB3 hg3
          have HM3 := Aside0.mk hM3
          have HB3 := Aside0.mk (And.intro hB3 hg3.size)
          clear hM3 hB3 hg3
          go_wp2
          go_roundg (l.length - (j + 1))
          case measure => omega
          case rel =>
            refine ⟨i + 1, j + 1, m.set i x, by omega, by omega, Nat.le_refl _, by go_num, by go_num, ⟨by rw [← Int.toNat_natCast i]; exact HM3.out⟩, ⟨?_⟩, ⟨?_⟩, ⟨HB3.out.1, ?_⟩⟩
            · rw [take_one l j hlt, List.filter_append, ← HT.out, HX.out, List.filter_cons_of_pos (by rw [← HX.out, HY.out]; rfl), List.filter_nil]
              rw [take_one (m.set i x) i (by rw [List.length_set]; omega), List.take_set_of_le (Nat.le_refl _), List.getElem_set_self]
            · rw [List.drop_set_of_lt (by omega)]
              exact HDJ.out
            · have h1 := HB2.out.size
              have h2 := HB.out.2
              have h3 := HB3.out.2
              rw [alloc_size1] at h1
              omega
      · have hltz : ¬ (j : Int) < (l.length : Int) := by omega
        obtain rfl : j = l.length := by omega
        have hicap : (i : Int) ≤ cap := by omega
        have htake : m.take i = l.filter fun x => !p x := by rw [HT.out, List.take_length]
        have HTK := Aside0.mk htake
        have hclr0 : ∀ (W : World) ty A c, (Builtin.clear_ #[26] ty #[.slice A 0 c]).run Try.prog W = .ok (.tuple #[]) W := fun W ty A c => clear_none W ty A c
        clear htake
        rcases Nat.lt_or_ge i l.length with hi | hi
        · obtain ⟨cur, hcur, hsz, hnc⟩ := own_block HM.out
          obtain ⟨vs, hvs, hclr⟩ : ∃ vs : List Value, vs.length = (l.length - i) * 9 ∧ ∀ ty, (Builtin.clear_ #[26] ty #[.slice (some ⟨gb, i * 9, none⟩) (l.length - i) (cap - i)]).run Try.prog wr = .ok (.tuple #[]) (wr.setCells gb (i * 9) vs) := by
            refine ⟨(Builtin.zeroCells (Value.agg #[(.int .i64 0), (.string ⟨#[]⟩), (.string ⟨#[]⟩), (.int .i64 0), (.string ⟨#[]⟩), (.string ⟨#[]⟩), (.int .i64 0), (.string ⟨#[]⟩), (.string ⟨#[]⟩)]).cells (l.length - i)).toList, by simp [Builtin.zeroCells, Value.cells], fun ty => clear_run wr 26 41 ty _ Try.underlying26 zeroR rfl ?_ gb (i * 9) (l.length - i) (cap - i) (by omega) ?_ ?_⟩
            · intro j
              rcases j with _ | _ | _ | _ | _ | _ | _ | _ | _ | j <;> rfl
            · intro j hj
              rw [cell_of_row wr gb _ cur 41 (0, 0) hcur]
              simp
              omega
            · intro j hj
              exact blk_frozen hcur _
          have HV := Aside0.mk hvs
          clear hcur hsz hnc hvs
          go_wp2
          go_ret
          refine ⟨⟨_, rfl, ?_⟩, ?_, ?_⟩
          · rw [← HTK.out]
            exact own_again (Kd.R_take HM.out (by omega)) vs (i * 9) (Nat.le_refl _) (by rw [HV.out]; omega)
          · exact HB.out.1.trans ⟨(setCells_same gb vs (i * 9) wr).1, (setCells_same gb vs (i * 9) wr).2.1, (setCells_same gb vs (i * 9) wr).2.2.1, by rw [(setCells_same gb vs (i * 9) wr).2.2.2]; exact Nat.le_refl _, fun k hk => setCells_far _ _ k (by omega)⟩
          · rw [(setCells_same gb vs (i * 9) wr).2.2.2]; exact HB.out.2
        · obtain rfl : i = l.length := by omega
          go_wp2
          all_goals
            go_ret
            refine ⟨⟨_, rfl, ?_⟩, HB.out.1, HB.out.2⟩
            rw [← HTK.out]
            first | exact Kd.R_take HM.out (by omega) | (have hm_ := HM.out; rw [show cap = l.length by omega] at hm_; exact Kd.R_take hm_ (by omega))
  · rw [if_neg hex] at hidx
    have HX := Aside0.mk hex
    clear hex
    go_enter Try.func70, Try.ntmps70
    go_wp2_with (go_at_call 93; refine hidx.mono ?_; rintro e w' ⟨rfl, hbb⟩; have HB1 := Aside0.mk hbb; clear hbb)
    go_ret
    refine ⟨⟨_, rfl, ?_⟩, HB0.out.trans (HB1.out.mono HBASE.out), HB1.out.size⟩
    have : (l.filter fun x => !p x) = l := by
      rw [List.filter_eq_self]
      intro x hx
      have := List.findIdx_eq_length.1 (Nat.le_antisymm List.findIdx_le_length (Nat.le_of_not_lt HX.out)) x hx
      rw [this]
      rfl
    rw [this]
    exact Kd.R_below HR.out HB1.out
end Go.Proofs.Ytdjamphmndbmjaa.M
