/- stratasame.Triples by hand. -/
import Derived.Test.YtdjamphmndbmjaaXset2
namespace Go.Proofs.Ytdjamphmndbmjaa.M
open Go.RowKit Go.Proofs.YtdjamphmndbmjaaW.PrintWords Go.Proofs.YtdjamphmndbmjaaW.PrintLast Go.Proofs.YtdjamphmndbmjaaW.PrintMore
set_option linter.unusedVariables false
set_option linter.unusedSimpArgs false

attribute [local go_sem high] eqTR
set_option maxHeartbeats 4000000 in
set_option maxRecDepth 100000 in
theorem same_calls (A0 A1 : Option Addr) (c0 c1 : Nat) (l0 l1 : List S41) (w : World) (hr0 : Kd.C k41 w A0 l0.length l0) (hr1 : Kd.C k41 w A1 l1.length l1) :
    Calls Try.prog 20 #[.slice A0 l0.length c0, .slice A1 l1.length c1] w fun e w' => e = .returned (.bool (decide (l0 = l1))) ∧ ∃ q, w' = w.drewN q := by
  have hbig : l0.length ≤ 9223372036854775807 := by have := hr0.2.1; simpa [maxLen] using this
  have hu41 := Try.underlying41
  by_cases hlen : l0.length = l1.length
  · have HR0 := Aside0.mk hr0
    have HR1 := Aside0.mk hr1
    have hlz : ((l0.length : Int) != (l1.length : Int)) = false := by rw [hlen]; simp
    have hlz2 : (l0.length == l1.length) = true := by simpa using hlen
    obtain ⟨n, hn⟩ : ∃ n, l0.length = n := ⟨_, rfl⟩
    have hn1 : l1.length = n := by omega
    rw [hn, hn1] at hlz hlz2
    have HN := Aside0.mk hn
    have HN1 := Aside0.mk hn1
    rw [hn] at hbig
    rw [hn, hn1]
    clear hr0 hr1 hlen hn hn1
    go_enter Try.func20, Try.ntmps20
    go_wp2
    repeat (go_quiet (fail); try go_wp2)
    go_loopg [5] n (fun gg s5 wr => ∃ i : Nat, i ≤ n ∧ n - i ≤ gg ∧ s5 = .int .i64 i ∧ Aside0 (l0.take i = l1.take i) ∧ ∃ q, wr = w.drewN q)
    case atStart => exact ⟨0, by omega, by omega, rfl, ⟨rfl⟩, by first | exact ⟨0, rfl⟩ | exact ⟨_, rfl⟩⟩
    case round =>
      obtain ⟨i, hin, hgg, rfl, HT, q, rfl⟩ := hrel
      by_cases hlt : i < n
      · have hltz : (i : Int) < (n : Int) := by omega
        have h0l : i < l0.length := by rw [HN.out]; exact hlt
        have h1l : i < l1.length := by rw [HN1.out]; exact hlt
        obtain ⟨ad0, e0, a0, a1, a2, a3, a4, a5, a6, a7, a8⟩ := at_T41 HR0.out (i : Int) (by omega) (by omega)
        obtain ⟨ad1, e1, b0, b1, b2, b3, b4, b5, b6, b7, b8⟩ := at_T41 HR1.out (i : Int) (by omega) (by omega)
        subst e0; subst e1
        rw [rd_T41_at l0 i h0l, Int.toNat_natCast] at a0 a1 a2 a3 a4 a5 a6 a7 a8
        rw [rd_T41_at l1 i h1l, Int.toNat_natCast] at b0 b1 b2 b3 b4 b5 b6 b7 b8
        have ht0 := take_one l0 i h0l
        have ht1 := take_one l1 i h1l
        have hd : ∀ h : l0 = l1, l0[i] = l1[i] := fun h => by subst h; rfl
        obtain ⟨x, hx⟩ : ∃ x, l0[i] = x := ⟨_, rfl⟩
        obtain ⟨y, hy⟩ : ∃ y, l1[i] = y := ⟨_, rfl⟩
        rw [hx] at a0 a1 a2 a3 a4 a5 a6 a7 a8 ht0 hd
        rw [hy] at b0 b1 b2 b3 b4 b5 b6 b7 b8 ht1 hd
        have HT0 := Aside0.mk ht0
        have HT1 := Aside0.mk ht1
        have HD := Aside0.mk hd
        have heq := eqE_decide x y
        clear ht0 ht1 hd hx hy h0l h1l
        by_cases hxy : x = y
        · rw [decide_eq_true hxy] at heq
          have HXY := Aside0.mk hxy
          clear hxy
          go_wp2
          repeat (go_quiet (fail); try go_wp2)
          go_roundg (n - (i + 1))
          case measure => omega
          case rel => exact ⟨i + 1, by omega, Nat.le_refl _, by go_num, ⟨by rw [HT0.out, HT1.out, HT.out, HXY.out]⟩, _, rfl⟩
        · rw [decide_eq_false hxy] at heq
          have HXY := Aside0.mk hxy
          clear hxy
          go_wp2
          repeat (go_quiet (fail); try go_wp2)
          go_ret
          exact ⟨by rw [decide_eq_false (fun h => HXY.out (HD.out h))]; rfl, _, World.drewN_drewN _ _ _⟩
      · have hltz : ¬ (i : Int) < (n : Int) := by omega
        obtain rfl : i = n := by omega
        go_wp2
        go_ret
        have ht := HT.out
        rw [List.take_of_length_le (by rw [HN.out]; exact Nat.le_refl _), List.take_of_length_le (by rw [HN1.out]; exact Nat.le_refl _)] at ht
        exact ⟨by rw [decide_eq_true ht]; rfl, _, rfl⟩
  · have hne : ¬ l0 = l1 := fun h => hlen (by rw [h])
    rw [decide_eq_false hne]
    have hlz : ((l0.length : Int) != (l1.length : Int)) = true := by rw [bne_iff_ne]; omega
    have hlz2 : (l0.length == l1.length) = false := by simpa using hlen
    clear hr0 hr1 hne
    go_enter Try.func20, Try.ntmps20
    go_wp2
    repeat (go_quiet (fail); try go_wp2)
    go_ret
    exact ⟨rfl, by first | exact ⟨0, rfl⟩ | exact ⟨_, rfl⟩⟩
end Go.Proofs.Ytdjamphmndbmjaa.M
