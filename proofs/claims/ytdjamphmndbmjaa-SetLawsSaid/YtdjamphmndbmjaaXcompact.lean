/- slices.Compact at []api.Triple, over a row of the call's own. By hand. -/
import Derived.Test.YtdjamphmndbmjaaXdel
import Derived.Test.YtdjamphmndbmjaaXord
namespace Go.Proofs.Ytdjamphmndbmjaa.M
open Go.RowKit Go.Proofs.YtdjamphmndbmjaaW.PrintWords Go.Proofs.YtdjamphmndbmjaaW.PrintLast Go.Proofs.YtdjamphmndbmjaaW.PrintMore
set_option linter.unusedVariables false
set_option linter.unusedSimpArgs false

/-- Equality of triples, as the model tells it. -/
def eqE (x y : S41) : Bool := (x.f0.f0 == y.f0.f0 && (x.f0.f1.toList == y.f0.f1.toList && (x.f0.f2.toList == y.f0.f2.toList))) && ((x.f1.f0 == y.f1.f0 && (x.f1.f1.toList == y.f1.f1.toList && (x.f1.f2.toList == y.f1.f2.toList))) && ((x.f2.f0 == y.f2.f0 && (x.f2.f1.toList == y.f2.f1.toList && (x.f2.f2.toList == y.f2.f2.toList)))))
theorem eqTM (d : Nat) (w : World) (x0 y0 : Int) (x1 y1 : ByteArray) (x2 y2 : ByteArray) :
    (Op.equalIn (d + 2) 35 (.agg #[.int .i64 x0, .string x1, .string x2]) (.agg #[.int .i64 y0, .string y1, .string y2])).run Try.prog w = .ok (x0 == y0 && (x1.toList == y1.toList && (x2.toList == y2.toList))) w := by
  refine eqA_of Try.underlying35 (by kernel_rfl) ?_
  refine eqf_cons (by rfl) (by go_simp; rfl) (by go_simp; rfl) (by go_simp) ?_
  refine eqf_cons (by rfl) (by go_simp; rfl) (by go_simp; rfl) (by go_simp) ?_
  exact eqf_last (by rfl) (by go_simp; rfl) (by go_simp; rfl) (by go_simp)
theorem eqTR (d : Nat) (w : World) (x0 y0 : Int) (x1 y1 : ByteArray) (x2 y2 : ByteArray) (x3 y3 : Int) (x4 y4 : ByteArray) (x5 y5 : ByteArray) (x6 y6 : Int) (x7 y7 : ByteArray) (x8 y8 : ByteArray) :
    (Op.equalIn (d + 3) 41 (.agg #[.int .i64 x0, .string x1, .string x2, .int .i64 x3, .string x4, .string x5, .int .i64 x6, .string x7, .string x8]) (.agg #[.int .i64 y0, .string y1, .string y2, .int .i64 y3, .string y4, .string y5, .int .i64 y6, .string y7, .string y8])).run Try.prog w = .ok (eqE ⟨⟨x0, x1, x2⟩, ⟨x3, x4, x5⟩, ⟨x6, x7, x8⟩⟩ ⟨⟨y0, y1, y2⟩, ⟨y3, y4, y5⟩, ⟨y6, y7, y8⟩⟩) w := by
  refine eqA_of Try.underlying41 (by kernel_rfl) ?_
  refine eqf_cons (by rfl) (by go_simp) (by go_simp) (eqTM (d + 0) w _ _ _ _ _ _) ?_
  refine eqf_cons (by rfl) (by go_simp) (by go_simp) (eqTM (d + 0) w _ _ _ _ _ _) ?_
  exact eqf_last (by rfl) (by go_simp) (by go_simp) (eqTM (d + 0) w _ _ _ _ _ _)
theorem toList_eq (a b : ByteArray) : (a.toList == b.toList) = decide (a = b) := by
  rw [Bool.eq_iff_iff, beq_iff_eq, decide_eq_true_iff, ByteArray.toList_eq, ByteArray.toList_eq]
  exact ⟨bytes_inj', fun h => by rw [h]⟩
theorem eqE_decide (x y : S41) : eqE x y = decide (x = y) := by
  obtain ⟨⟨a0, a1, a2⟩, ⟨a3, a4, a5⟩, ⟨a6, a7, a8⟩⟩ := x
  obtain ⟨⟨b0, b1, b2⟩, ⟨b3, b4, b5⟩, ⟨b6, b7, b8⟩⟩ := y
  unfold eqE
  simp only [toList_eq]
  rw [Bool.eq_iff_iff]
  simp only [Bool.and_eq_true, beq_iff_eq, decide_eq_true_iff, S41.mk.injEq, S35.mk.injEq]

theorem i64_wrap_id (n : Int) (h1 : -9223372036854775808 ≤ n) (h2 : n ≤ 9223372036854775807) : IntKind.i64.wrap n = n := by
  show (if (true && decide (n % 18446744073709551616 ≥ 9223372036854775808)) = true then n % 18446744073709551616 - 18446744073709551616 else n % 18446744073709551616) = n
  simp only [Bool.true_and, decide_eq_true_eq]
  split <;> omega
/-- A list in which no two that are neighbours are the same. -/
def uniqFrom (p : S41) : List S41 → List S41
  | [] => []
  | y :: l => if y = p then uniqFrom p l else y :: uniqFrom y l
def uniq : List S41 → List S41
  | [] => []
  | x :: l => x :: uniqFrom x l
theorem uniqFrom_snoc (p : S41) (l : List S41) (y : S41) : uniqFrom p (l ++ [y]) = uniqFrom p l ++ (if y = (l.getLastD p) then [] else [y]) := by
  induction l generalizing p with
  | nil => rw [List.nil_append, uniqFrom, uniqFrom, uniqFrom, List.nil_append]; rfl
  | cons z l ih =>
    rw [List.cons_append, uniqFrom, uniqFrom, List.getLastD_cons]
    split
    · rename_i h; subst h; exact ih z
    · rw [ih z]; rfl
theorem uniq_take (l : List S41) (j : Nat) (h : j < l.length) (hp : 0 < j) : uniq (l.take (j + 1)) = uniq (l.take j) ++ (if l[j] = l[j - 1] then [] else [l[j]]) := by
  cases l with
  | nil => simp at h
  | cons x l =>
    obtain ⟨i, rfl⟩ : ∃ i, j = i + 1 := ⟨j - 1, by omega⟩
    have hi : i < l.length := by simpa using h
    rw [List.take_succ_cons, List.take_succ_cons, uniq, uniq, take_one l i hi, uniqFrom_snoc]
    have e : (l.take i).getLastD x = (x :: l)[i] := by
      cases i with
      | zero => simp
      | succ i => 
        rw [take_one l i (by omega), List.getLastD_concat]
        rfl
    rw [e]
    rfl
theorem uniq_one (l : List S41) (h : 0 < l.length) : uniq (l.take 1) = l.take 1 := by
  cases l with
  | nil => simp at h
  | cons x l => rfl

theorem own_cells_at {w : World} {base gb n cap : Nat} {m : List S41} (h : Kd.R k41 41 w base (fun _ => True) (.slice (some ⟨gb, 0, none⟩) n cap) m) (j o : Nat) (x : S41) (hj : j < m.length) (ho : o = j * 9) (hx : m[j] = x) :
    w.cell? ⟨gb, o, none⟩ = some (.int .i64 x.f0.f0) ∧ w.cell? ⟨gb, o + 1, none⟩ = some (.string x.f0.f1) ∧ w.cell? ⟨gb, o + 2, none⟩ = some (.string x.f0.f2) ∧ w.cell? ⟨gb, o + 3, none⟩ = some (.int .i64 x.f1.f0) ∧ w.cell? ⟨gb, o + 4, none⟩ = some (.string x.f1.f1) ∧ w.cell? ⟨gb, o + 5, none⟩ = some (.string x.f1.f2) ∧ w.cell? ⟨gb, o + 6, none⟩ = some (.int .i64 x.f2.f0) ∧ w.cell? ⟨gb, o + 7, none⟩ = some (.string x.f2.f1) ∧ w.cell? ⟨gb, o + 8, none⟩ = some (.string x.f2.f2) := by
  subst ho; subst hx
  exact own_cells h j hj
attribute [local go_sem high] eqTR
set_option maxHeartbeats 8000000 in
set_option maxRecDepth 100000 in
theorem cmpt_calls (base : Nat) (A : Option Addr) (cap : Nat) (l : List S41) (w : World) (hr : Kd.R k41 41 w base (fun _ => True) (.slice A l.length cap) l) (hbase : base ≤ w.heap.size) :
    Calls Try.prog 89 #[.slice A l.length cap] w fun e w' => (∃ v, e = .returned v ∧ Kd.R k41 41 w' base (fun _ => True) v (uniq l)) ∧ Below base w w' ∧ w.heap.size ≤ w'.heap.size := by
  have hcl : l.length ≤ cap := (Kd.R_reads' hr).2.1
  have hcap : cap ≤ 9223372036854775807 := by
    obtain ⟨inner, _, hown⟩ := Kd.R_own hr
    rcases hown with ⟨hv, _⟩ | ⟨g', cap', cur, hv, _, _, _, hcm, _⟩
    · injection hv with _ _ hc; omega
    · injection hv with _ _ hc; subst hc; simpa [maxLen] using hcm
  have HR := Aside0.mk hr
  have HBASE := Aside0.mk hbase
  have hu41 := Try.underlying41
  clear hr hbase
  rcases Nat.lt_or_ge l.length 2 with h2 | h2
  · have h2z : (l.length : Int) < 2 := by omega
    have hu : uniq l = l := by
      rcases l with _ | ⟨x, _ | ⟨y, l⟩⟩
      · rfl
      · rfl
      · simp only [List.length_cons] at h2; omega
    rw [hu]
    go_enter Try.func89, Try.ntmps89
    go_wp2
    go_ret
    exact ⟨⟨_, rfl, HR.out⟩, Below.refl _ _, Nat.le_refl _⟩
  · have h2z : ¬ (l.length : Int) < 2 := by omega
    obtain ⟨gb, rfl⟩ : ∃ gb, A = some (⟨gb, 0, none⟩ : Addr) := by
      obtain ⟨g', c', hv, _⟩ := Kd.R_form HR.out (by omega)
      injection hv with ha
      exact ⟨g', ha⟩
    have hGB : base ≤ gb := Kd.R_base HR.out gb rfl
    go_enter Try.func89, Try.ntmps89
    go_wp2
    go_loopg [3, 4, 5] l.length (fun gg s3 _ _ wr => ∃ k : Nat, 0 < k ∧ k ≤ l.length ∧ l.length - k ≤ gg ∧ s3 = .int .i64 k ∧ Aside0 (uniq (l.take k) = l.take k) ∧ ∃ q, wr = w.drewN q)
    case atStart => exact ⟨1, by omega, by omega, by omega, rfl, ⟨uniq_one l (by omega)⟩, 0, rfl⟩
    case round =>
      obtain ⟨k, hk0, hkn, hgg, rfl, HU, q, rfl⟩ := hrel
      by_cases hlt : k < l.length
      · have hltz : (k : Int) < (l.length : Int) := by omega
        obtain ⟨x, hx⟩ : ∃ x, l[k] = x := ⟨_, rfl⟩
        obtain ⟨j, hj⟩ : ∃ j, k - 1 = j := ⟨_, rfl⟩
        have hjl : j < l.length := by omega
        have hjz : (j : Int) < (l.length : Int) := by omega
        obtain ⟨y, hy⟩ : ∃ y, l[j] = y := ⟨_, rfl⟩
        obtain ⟨a0, a1, a2, a3, a4, a5, a6, a7, a8⟩ := own_cells_at HR.out k (k * 9) x (by omega) rfl hx
        obtain ⟨b0, b1, b2, b3, b4, b5, b6, b7, b8⟩ := own_cells_at HR.out j (j * 9) y (by omega) rfl hy
        have hw1 : IntKind.i64.wrap ((k : Int) - 1) = (j : Int) := (i64_wrap_id _ (by omega) (by omega)).trans (by omega)
        have hut := uniq_take l k hlt hk0
        have hut2 : l[k - 1]'(by omega) = y := by rw [← hy]; congr 1
        rw [hx, hut2] at hut
        have HJ := Aside0.mk hj
        clear hut2 hj
        have HX := Aside0.mk hx
        have HY := Aside0.mk hy
        have HUT := Aside0.mk hut
        have heq := eqE_decide x y
        clear hx hy hut
        by_cases hxy : x = y
        · rw [decide_eq_true hxy] at heq
          have HXY := Aside0.mk hxy
          clear hxy
          go_wp2
          repeat (go_quiet (fail); try go_wp2)
          have hstart : uniq (l.take (k + 1)) = l.take k := by rw [HUT.out, if_pos HXY.out, List.append_nil, HU.out]
          have HST := Aside0.mk hstart
          clear hstart a0 a1 a2 a3 a4 a5 a6 a7 a8 b0 b1 b2 b3 b4 b5 b6 b7 b8 heq hw1 hjl hjz HX HY HUT HXY HJ
          go_loopg [3, 5] l.length (fun gg s3 s5 wr => ∃ (i k2 : Nat) (m : List S41), k ≤ i ∧ 0 < k2 ∧ i + 1 ≤ k + k2 ∧ k + k2 ≤ l.length ∧ l.length - (k + k2) ≤ gg ∧ s3 = .int .i64 i ∧ s5 = .int .i64 k2 ∧ Aside0 (Kd.R k41 41 wr base (fun _ => True) (.slice (some ⟨gb, 0, none⟩) l.length cap) m) ∧ Aside0 (m.take i = uniq (l.take (k + k2))) ∧ Aside0 (m.drop (k + k2 - 1) = l.drop (k + k2 - 1)) ∧ Aside0 (Below base w wr ∧ w.heap.size ≤ wr.heap.size))
          case atStart =>
            exact ⟨k, 1, l, Nat.le_refl _, by omega, by omega, by omega, by omega, rfl, rfl, ⟨Kd.R_drewN HR.out _⟩, ⟨HST.out.symm⟩, ⟨rfl⟩, ⟨below_at rfl (Below.refl _ _), Nat.le_refl _⟩⟩
          case round =>
            obtain ⟨i, k2, m, hki, hk20, hik, hkk, hg2, rfl, rfl, HM, HT, HD, HB⟩ := hrel
            have hml : m.length = l.length := (Kd.R_reads' HM.out).1.symm
            by_cases hlt2 : k + k2 < l.length
            · have hlt2z : (k2 : Int) < ((l.length - k : Nat) : Int) := by omega
              obtain ⟨j, hj⟩ : ∃ j, k2 - 1 = j := ⟨_, rfl⟩
              have hjz : (j : Int) < ((l.length - k : Nat) : Int) := by omega
              have hd0 : m.drop (k + j) = l.drop (k + j) := by have := HD.out; rw [show k + k2 - 1 = k + j by omega] at this; exact this
              obtain ⟨hy, hd1⟩ := del_at hml (by omega) hd0
              rw [show k + j + 1 = k + k2 by omega] at hd1
              obtain ⟨hx, hd2⟩ := del_at hml hlt2 hd1
              obtain ⟨x, hxx⟩ : ∃ x, l[k + k2] = x := ⟨_, rfl⟩
              obtain ⟨y, hyy⟩ : ∃ y, l[k + j]'(by omega) = y := ⟨_, rfl⟩
              have hM1 : m[k + k2]'(by omega) = x := hx.trans hxx
              obtain ⟨a0, a1, a2, a3, a4, a5, a6, a7, a8⟩ := own_cells_at HM.out (k + k2) (k * 9 + k2 * 9) x (by omega) (by omega) (hx.trans hxx)
              obtain ⟨b0, b1, b2, b3, b4, b5, b6, b7, b8⟩ := own_cells_at HM.out (k + j) (k * 9 + j * 9) y (by omega) (by omega) (hy.trans hyy)
              have hw1 : IntKind.i64.wrap ((k2 : Int) - 1) = (j : Int) := (i64_wrap_id _ (by omega) (by omega)).trans (by omega)
              have hut := uniq_take l (k + k2) hlt2 (by omega)
              have hut2 : l[k + k2 - 1]'(by omega) = y := by rw [← hyy]; congr 1; omega
              rw [hxx, hut2] at hut
              have HUT := Aside0.mk hut
              have HD1 := Aside0.mk hd1
              have HJ := Aside0.mk hj
              have heq := eqE_decide x y
              clear hd0 hd1 hd2 hx hy hxx hyy hM1 hut hut2 hj
              by_cases hxy : x = y
              · rw [decide_eq_true hxy] at heq
                have HXY := Aside0.mk hxy
                clear hxy
                go_wp2
                repeat (go_quiet (fail); try go_wp2)
                go_roundg (l.length - (k + (k2 + 1)))
                case measure => omega
                case rel =>
                  refine ⟨i, k2 + 1, m, hki, by omega, by omega, by omega, Nat.le_refl _, rfl, by go_num, ⟨Kd.R_drewN HM.out _⟩, ⟨?_⟩, ⟨HD1.out⟩, ⟨below_at rfl HB.out.1, HB.out.2⟩⟩
                  rw [HT.out, ← Nat.add_assoc, HUT.out, if_pos HXY.out, List.append_nil]
              · rw [decide_eq_false hxy] at heq
                have HXY := Aside0.mk hxy
                clear hxy
                have hiz : (i : Int) < (l.length : Int) := by omega
                go_wp2
                go_quiet (fail)
                go_wp2_with ((with_reducible refine gate_store (t := 41) (p := 51) rfl ?_); refine stop_ ?_)
                refine ⟨?_⟩
                refine Kd.R_store k41 (w0 := w) (o' := i * 9) base rfl rfl 41 (.tmp 51) (.tmp 50) rfl 41 (i : Int) 0 m x (aggR x) (celR x).toList (celR (m[i]'(by omega))).toList (fun _ => True) (fun _ => False) rfl rfl rfl rfl ?at_ ?a1 (Kd.R_drewN HM.out _) ?a0 ?ai rfl ?acc ?aj ?aM (fun _ h => h.elim) (below_at rfl HB.out.1) ?_
                case at_ => obtain ⟨i, hi, hz⟩ := Option.map_eq_some_iff.1 xinfoT; have h0 := congrArg (fun q => q.2.1) hz; rw [hi]; exact congrArg some h0
                case a1 => intro q hq; simp only [celR, List.mem_cons, List.not_mem_nil, or_false] at hq; rcases hq with rfl | rfl | rfl | rfl | rfl | rfl | rfl | rfl | rfl <;> rfl
                case a0 => omega
                case ai => omega
                case acc =>
                  obtain ⟨s0, s1, s2, s3, s4, s5, s6, s7, s8⟩ := own_cells HM.out i (by omega)
                  intro j u hu
                  rw [Int.toNat_natCast]
                  rcases j with _ | _ | _ | _ | _ | _ | _ | _ | _ | j
                  · exact s0.trans hu
                  · exact s1.trans hu
                  · exact s2.trans hu
                  · exact s3.trans hu
                  · exact s4.trans hu
                  · exact s5.trans hu
                  · exact s6.trans hu
                  · exact s7.trans hu
                  · exact s8.trans hu
                  · cases hu
                case aj => exact Nat.le_refl _
                case aM => exact k41_mkM _ _ _ x
                intro w3 hM3 hB3 hg3
                have HM3 := Aside0.mk hM3
                have HB3 := Aside0.mk (And.intro hB3 hg3.size)
                clear hM3 hB3 hg3
                go_wp2
                go_roundg (l.length - (k + (k2 + 1)))
                case measure => omega
                case rel =>
                  refine ⟨i + 1, k2 + 1, m.set i x, by omega, by omega, by omega, by omega, Nat.le_refl _, by go_num, by go_num, ⟨by rw [← Int.toNat_natCast i]; exact HM3.out⟩, ⟨?_⟩, ⟨?_⟩, ⟨HB3.out.1, Nat.le_trans HB.out.2 HB3.out.2⟩⟩
                  · rw [← Nat.add_assoc, HUT.out, if_neg HXY.out, ← HT.out, take_one (m.set i x) i (by rw [List.length_set]; omega), List.take_set_of_le (Nat.le_refl _), List.getElem_set_self]
                  · rw [List.drop_set_of_lt (by omega)]
                    exact HD1.out
            · have hlt2z : ¬ (k2 : Int) < ((l.length - k : Nat) : Int) := by omega
              have hkl : k + k2 = l.length := by omega
              have htake : m.take i = uniq l := by rw [HT.out, hkl, List.take_length]
              have HTK := Aside0.mk htake
              have hil : i < l.length := by omega
              have hicap : (i : Int) ≤ cap := by omega
              have hilz : (i : Int) ≤ l.length := by omega
              obtain ⟨cur, hcur, hsz, hnc⟩ := own_block HM.out
              obtain ⟨vs, hvs, hclr⟩ : ∃ vs : List Value, vs.length = (l.length - i) * 9 ∧ ∀ ty, (Builtin.clear_ #[26] ty #[.slice (some ⟨gb, i * 9, none⟩) (l.length - i) (cap - i)]).run Try.prog wr = .ok (.tuple #[]) (wr.setCells gb (i * 9) vs) := by
                refine ⟨(Builtin.zeroCells (Value.agg #[(.int .i64 0), (.string ⟨#[]⟩), (.string ⟨#[]⟩), (.int .i64 0), (.string ⟨#[]⟩), (.string ⟨#[]⟩), (.int .i64 0), (.string ⟨#[]⟩), (.string ⟨#[]⟩)]).cells (l.length - i)).toList, by simp [Builtin.zeroCells, Value.cells], fun ty => clear_run wr 26 41 ty _ Try.underlying26 zeroR rfl ?_ gb (i * 9) (l.length - i) (cap - i) (by omega) ?_ ?_⟩
                · intro j
                  rcases j with _ | _ | _ | _ | _ | _ | _ | _ | _ | j <;> rfl
                · intro j hj
                  rw [cell_of_row wr gb _ cur 41 (0, 0) hcur]
                  simp
                  omega
                · intro j hj
                  exact blk_frozen hcur _
              have HV := Aside0.mk hvs
              clear hcur hsz hnc hvs htake hkl
              go_wp2
              go_ret
              refine ⟨⟨_, rfl, ?_⟩, ?_, ?_⟩
              · rw [← HTK.out]
                exact own_again (Kd.R_take HM.out (by omega)) vs (i * 9) (Nat.le_refl _) (by rw [HV.out]; omega)
              · exact HB.out.1.trans ⟨(setCells_same gb vs (i * 9) wr).1, (setCells_same gb vs (i * 9) wr).2.1, (setCells_same gb vs (i * 9) wr).2.2.1, by rw [(setCells_same gb vs (i * 9) wr).2.2.2]; exact Nat.le_refl _, fun k hk => setCells_far _ _ k (by omega)⟩
              · rw [(setCells_same gb vs (i * 9) wr).2.2.2]; exact HB.out.2
        · rw [decide_eq_false hxy] at heq
          have HXY := Aside0.mk hxy
          clear hxy
          go_wp2
          go_quiet (fail)
          go_wp2
          go_roundg (l.length - (k + 1))
          case measure => omega
          case rel =>
            refine ⟨k + 1, by omega, by omega, Nat.le_refl _, by go_num, ⟨?_⟩, _, rfl⟩
            rw [HUT.out, if_neg HXY.out, HU.out, take_one l k hlt, HX.out]
      · have hltz : ¬ (k : Int) < (l.length : Int) := by omega
        obtain rfl : k = l.length := by omega
        go_wp2
        go_ret
        have hu := HU.out
        rw [List.take_length] at hu
        rw [hu]
        exact ⟨⟨_, rfl, Kd.R_drewN HR.out _⟩, below_at rfl (Below.refl _ _), Nat.le_refl _⟩
end Go.Proofs.Ytdjamphmndbmjaa.M
