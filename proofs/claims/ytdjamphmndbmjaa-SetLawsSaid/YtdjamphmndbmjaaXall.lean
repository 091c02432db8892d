/- term.all: whether all bytes of a text are so; the four functions it is handed in package term. By hand. -/
import Derived.Test.YtdjamphmndbmjaaMx0
import Derived.WalkSpells
import Derived.Shelf.Abstract
namespace Go.Proofs.Ytdjamphmndbmjaa.M
open Go.RowKit Go.Proofs.YtdjamphmndbmjaaW.PrintWords Go.Proofs.YtdjamphmndbmjaaW.PrintLast Go.Proofs.YtdjamphmndbmjaaW.PrintMore
set_option linter.unusedVariables false
set_option linter.unusedSimpArgs false

def isLetter (c : Int) : Bool := decide (97 ≤ c) && decide (c ≤ 122)
def isDigit (c : Int) : Bool := decide (48 ≤ c) && decide (c ≤ 57)
def isName (c : Int) : Bool := isLetter c || (isDigit c || (c == 58 || (c == 47 || c == 46)))
def isAnon (c : Int) : Bool := isLetter c || isDigit c
def isText (c : Int) : Bool := decide (32 ≤ c) && decide (c ≤ 126)

theorem letter_byte (c : Int) (w : World) : Calls Try.prog 53 #[.int .u8 c] w fun e w' => e = .returned (.bool (isLetter c)) ∧ w = w' := by
  by_cases h1 : 97 ≤ c
  · have h1b : decide (97 ≤ c) = true := decide_eq_true h1
    go_enter Try.func53, Try.ntmps53
    go_wp2
    go_ret
    exact ⟨by simp [isLetter, h1], rfl⟩
  · have h1b : decide (97 ≤ c) = false := decide_eq_false h1
    go_enter Try.func53, Try.ntmps53
    go_wp2
    go_ret
    exact ⟨by simp [isLetter]; omega, rfl⟩
theorem digit_byte (c : Int) (w : World) : Calls Try.prog 78 #[.int .u8 c] w fun e w' => e = .returned (.bool (isDigit c)) ∧ w = w' := by
  by_cases h1 : 48 ≤ c
  · have h1b : decide (48 ≤ c) = true := decide_eq_true h1
    go_enter Try.func78, Try.ntmps78
    go_wp2
    go_ret
    exact ⟨by simp [isDigit, h1], rfl⟩
  · have h1b : decide (48 ≤ c) = false := decide_eq_false h1
    go_enter Try.func78, Try.ntmps78
    go_wp2
    go_ret
    exact ⟨by simp [isDigit]; omega, rfl⟩
theorem text_byte (c : Int) (w : World) : Calls Try.prog 80 #[.int .u8 c] w fun e w' => e = .returned (.bool (isText c)) ∧ w = w' := by
  by_cases h1 : 32 ≤ c
  · have h1b : decide (32 ≤ c) = true := decide_eq_true h1
    go_enter Try.func80, Try.ntmps80
    go_wp2
    go_ret
    exact ⟨by simp [isText, h1], rfl⟩
  · have h1b : decide (32 ≤ c) = false := decide_eq_false h1
    go_enter Try.func80, Try.ntmps80
    go_wp2
    go_ret
    exact ⟨by simp [isText]; omega, rfl⟩
theorem anon_byte (c : Int) (w : World) : Calls Try.prog 79 #[.int .u8 c] w fun e w' => e = .returned (.bool (isAnon c)) ∧ w = w' := by
  have hL := fun W => letter_byte c W
  have hD := fun W => digit_byte c W
  unfold isAnon
  generalize isLetter c = a at hL ⊢
  generalize isDigit c = b at hD ⊢
  cases a <;>
  · go_enter Try.func79, Try.ntmps79
    go_wp2_with (first | (go_at_call 53; refine (hL _).mono ?_; rintro e w' ⟨rfl, rfl⟩) | (go_at_call 78; refine (hD _).mono ?_; rintro e w' ⟨rfl, rfl⟩))
    go_ret
    exact ⟨by simp, rfl⟩
theorem name_byte (c : Int) (w : World) : Calls Try.prog 77 #[.int .u8 c] w fun e w' => e = .returned (.bool (isName c)) ∧ w = w' := by
  have hL := fun W => letter_byte c W
  have hD := fun W => digit_byte c W
  unfold isName
  generalize isLetter c = a at hL ⊢
  generalize isDigit c = b at hD ⊢
  cases a <;> cases b <;> cases h1 : (c == 58) <;> cases h2 : (c == 47) <;>
  · go_enter Try.func77, Try.ntmps77
    go_wp2_with (first | (go_at_call 53; refine (hL _).mono ?_; rintro e w' ⟨rfl, rfl⟩) | (go_at_call 78; refine (hD _).mono ?_; rintro e w' ⟨rfl, rfl⟩))
    go_ret
    exact ⟨by first | rfl | (rw [h1]; rfl) | (rw [h1, h2]; rfl) | (simp only [h1, h2, Bool.false_or, Bool.true_or]; done), rfl⟩

/-- The closure that 'all' makes: its one captured variable holds the function it was handed. -/
theorem all1_calls (fn b : Nat) (p : Int → Bool) (c : Int) (W : World) (hc : W.cell? ⟨b, 0, none⟩ = some (.func (.func fn) #[] #[]))
    (efn : ∀ args w, (callFunc fn args).run Try.prog w = .ok (.enter fn args) w) (hp : ∀ W', Calls Try.prog fn #[.int .u8 c] W' fun e w' => e = .returned (.bool (p c)) ∧ W' = w') :
    Calls Try.prog 76 #[.int .u8 c, .pointer (some ⟨b, 0, none⟩)] W fun e w' => e = .returned (.bool (!p c)) ∧ W = w' := by
  generalize p c = r at hp ⊢
  go_enter Try.func76, Try.ntmps76
  go_wp2_with (go_at_fn fn; refine (hp _).mono ?_; rintro e w' ⟨rfl, rfl⟩)
  go_ret
  exact ⟨rfl, rfl⟩

/-- A function's outcome behind a name that the walk doesn't open. -/
def AnyIdx (q : Int → Bool) (l : List Int) (e : Ending) : Prop := ∃ n : Int, e = .returned (.int .i64 n) ∧ decide (0 ≤ n) = l.any q

theorem any_rd_true {q : Int → Bool} {l : List Int} {i : Nat} (h : i < l.length) (hq : q (rd l i) = true) : l.any q = true := by
  rw [List.any_eq_true]
  refine ⟨l[i], List.getElem_mem h, ?_⟩
  have : rd l i = l[i] := by simp [rd, List.getD_eq_getElem?_getD, h]
  rw [← this]; exact hq
theorem any_rd_false {q : Int → Bool} {l : List Int} (h : ∀ j : Nat, j < l.length → q (rd l j) = false) : l.any q = false := by
  rw [List.any_eq_false]
  intro x hx
  obtain ⟨j, hj, rfl⟩ := List.getElem_of_mem hx
  have : rd l j = l[j] := by simp [rd, List.getD_eq_getElem?_getD, hj]
  have h1 := h j hj
  rw [this] at h1
  simp [h1]

set_option maxHeartbeats 2000000 in
theorem idxb_calls (g : Nat) (lb : Array Value) (q : Int → Bool) (A : Option Addr) (cap : Nat) (l : List Int) (w : World)
    (eg : ∀ args w, (callFunc g args).run Try.prog w = .ok (.enter g args) w) (hr : Kd.C (Kd.int .u8) w A l.length l)
    (hq : ∀ x : Int, Calls Try.prog g (#[.int .u8 x] ++ lb) w fun e w' => e = .returned (.bool (q x)) ∧ w = w') :
    Calls Try.prog 95 #[.slice A l.length cap, .func (.func g) #[] lb] w fun e w' => AnyIdx q l e ∧ w = w' := by
  have HR := Aside0.mk hr
  have HQ := Aside0.mk hq
  have hbig : l.length ≤ 9223372036854775807 := hr.2.1
  clear hr hq
  go_enter Try.func95, Try.ntmps95
  go_wp2
  go_loopg [5, 8] l.length (fun gg _ s8 wr => ∃ kk : Nat, kk ≤ l.length ∧ l.length - kk ≤ gg ∧ s8 = .int .i64 kk ∧ wr = w ∧ Aside0 (∀ j : Nat, j < kk → q (rd l j) = false))
  case atStart => exact ⟨0, Nat.zero_le _, by omega, rfl, rfl, ⟨fun j hj => absurd hj (Nat.not_lt_zero _)⟩⟩
  case round =>
    obtain ⟨kk, hkk, hg, rfl, rfl, HA⟩ := hrel
    by_cases hlt : kk < l.length
    · have hltz : (kk : Int) < (l.length : Int) := by omega
      obtain ⟨ad, e0, hx⟩ := Kd.at_int HR.out (kk : Int) (by omega) (by omega)
      subst e0
      rw [Int.toNat_natCast] at hx
      have hcall := HQ.out (rd l kk)
      generalize hy : rd l kk = y at hx hcall
      have HY := Aside0.mk hy
      clear hy
      cases hqy : q y with
      | true =>
        rw [hqy] at hcall
        have HQY := Aside0.mk hqy
        clear hqy
        go_wp2_with (go_at_fn g; refine hcall.mono ?_; rintro e w' ⟨rfl, rfl⟩)
        go_ret
        exact ⟨⟨_, rfl, by rw [any_rd_true hlt (by rw [HY.out]; exact HQY.out)]; simp⟩, rfl⟩
      | false =>
        rw [hqy] at hcall
        have HQY := Aside0.mk hqy
        clear hqy
        go_wp2_with (go_at_fn g; refine hcall.mono ?_; rintro e w' ⟨rfl, rfl⟩)
        go_roundg (l.length - (kk + 1))
        case measure => omega
        case rel =>
          refine ⟨kk + 1, by omega, by omega, by go_num, rfl, ⟨fun j hj => ?_⟩⟩
          by_cases e : j = kk
          · subst e
            rw [HY.out]; exact HQY.out
          · exact HA.out j (by omega)
    · have hltz : ¬ (kk : Int) < (l.length : Int) := by omega
      obtain rfl : kk = l.length := by omega
      go_wp2
      go_ret
      exact ⟨⟨_, rfl, by rw [any_rd_false HA.out]; decide⟩, rfl⟩

theorem containsb_calls (g : Nat) (lb : Array Value) (q : Int → Bool) (A : Option Addr) (cap : Nat) (l : List Int) (w : World)
    (eg : ∀ args w, (callFunc g args).run Try.prog w = .ok (.enter g args) w) (hr : Kd.C (Kd.int .u8) w A l.length l)
    (hq : ∀ x : Int, Calls Try.prog g (#[.int .u8 x] ++ lb) w fun e w' => e = .returned (.bool (q x)) ∧ w = w') :
    Calls Try.prog 75 #[.slice A l.length cap, .func (.func g) #[] lb] w fun e w' => e = .returned (.bool (l.any q)) ∧ w = w' := by
  have hi := idxb_calls g lb q A cap l w eg hr hq
  clear hr hq
  obtain ⟨r, hr0⟩ : ∃ r, l.any q = r := ⟨_, rfl⟩
  rw [hr0]
  have HRR := Aside0.mk hr0
  have Hi := Aside0.mk hi
  clear hr0 hi
  go_enter Try.func75, Try.ntmps75
  go_wp2_with (go_at_call 95; refine Hi.out.mono ?_; rintro e w' ⟨⟨n, rfl, hn⟩, rfl⟩; have HN := Aside0.mk hn; clear hn)
  go_ret
  exact ⟨congrArg (fun b => Ending.returned (.bool b)) (HN.out.trans HRR.out), rfl⟩

/-- Whether all bytes of a text are so, by the number of the function that is asked; another function isn't told. -/
def predOf (fn : Nat) : Option (Int → Bool) :=
  if fn = 53 then some isLetter else if fn = 77 then some isName else if fn = 79 then some isAnon else if fn = 80 then some isText else none
theorem predOf_enters {fn : Nat} {p : Int → Bool} (h : predOf fn = some p) : ∀ args w, (callFunc fn args).run Try.prog w = .ok (.enter fn args) w := by
  unfold predOf at h
  split at h
  · rename_i e; subst e; exact enters_of Try.func53 (by kernel_rfl) rfl
  · split at h
    · rename_i e; subst e; exact enters_of Try.func77 (by kernel_rfl) rfl
    · split at h
      · rename_i e; subst e; exact enters_of Try.func79 (by kernel_rfl) rfl
      · split at h
        · rename_i e; subst e; exact enters_of Try.func80 (by kernel_rfl) rfl
        · cases h
theorem predOf_calls {fn : Nat} {p : Int → Bool} (h : predOf fn = some p) (c : Int) (w : World) : Calls Try.prog fn #[.int .u8 c] w fun e w' => e = .returned (.bool (p c)) ∧ w = w' := by
  unfold predOf at h
  split at h
  · rename_i e; subst e; cases h; exact letter_byte c w
  · split at h
    · rename_i e; subst e; cases h; exact name_byte c w
    · split at h
      · rename_i e; subst e; cases h; exact anon_byte c w
      · split at h
        · rename_i e; subst e; cases h; exact text_byte c w
        · cases h

def term_all.f (a0 : ByteArray) (a1 : Nat) : Option Bool := if a0.size ≤ 9223372036854775807 then (predOf a1).map fun p => (bytesOf a0).all p else none

theorem not_any_not (p : Int → Bool) (l : List Int) : (!l.any fun x => !p x) = l.all p := by
  induction l with
  | nil => rfl
  | cons x l ih => simp only [List.any_cons, List.all_cons, Bool.not_or, Bool.not_not, ih]

set_option maxHeartbeats 2000000 in
theorem term_all.calls (a0 : ByteArray) (a1 : Nat) (r : Bool) (w : World) (h : term_all.f a0 a1 = some r) :
    Calls Try.prog 51 #[.string a0, .func (.func a1) #[] #[]] w fun e w' => e = .returned (.bool r) ∧ Below w.heap.size w w' := by
  unfold term_all.f at h
  split at h
  · rename_i hbig
    obtain ⟨p, hp, hr⟩ := Option.map_eq_some_iff.1 h
    have HP := Aside0.mk hp
    have HB := Aside0.mk (Below.refl w.heap.size w)
    have kb := fun W => print_bytes (P := Try.prog) 9 131 5 Try.underlying9 Try.underlying131 Try.underlying5 a0 W
    have e1 : ∀ args w, (callFunc 76 args).run Try.prog w = .ok (.enter 76 args) w := enters_of Try.func76 (by kernel_rfl) rfl
    have hlen : (bytesOf a0).length = a0.size := bytesOf_length a0
    have hC : ∀ W : World, Kd.C (Kd.int .u8) (Lib.bytesWorld W 5 a0) (some ⟨W.heap.size, 0, none⟩) (bytesOf a0).length (bytesOf a0) := fun W => by
      rw [hlen]; exact Kd.C_of_reads (d := (0 : Int)) (h1 := fun _ => rfl) (bytes_reads W 5 a0 hbig)
    have hcall := fun (W : World) (cap : Nat) (hc : W.cell? ⟨w.heap.size, 0, none⟩ = some (.func (.func a1) #[] #[])) (hC1 : Kd.C (Kd.int .u8) W (some ⟨w.heap.size + 1, 0, none⟩) (bytesOf a0).length (bytesOf a0)) =>
      containsb_calls 76 #[.pointer (some ⟨w.heap.size, 0, none⟩)] (fun x => !p x) (some ⟨w.heap.size + 1, 0, none⟩) cap (bytesOf a0) W e1 hC1
        (fun x => all1_calls a1 w.heap.size p x W hc (predOf_enters HP.out) (fun W' => predOf_calls HP.out x W'))
    rw [hlen] at hcall
    have HC := Aside0.mk hC
    have HCALL := Aside0.mk hcall
    have HRES := Aside0.mk ((not_any_not p (bytesOf a0)).trans hr)
    have HBIG := Aside0.mk hbig
    clear hC hcall h hp hr hlen e1 hbig
    go_enter Try.func51, Try.ntmps51
    go_wp2_with fail
    refine (HCALL.out _ _ ?hcell ?hrow).mono ?_
    case hcell =>
      rw [Below.cell (w := w.alloc (.cells #[.func (.func a1) #[] #[]] 101)) (bytes_below (Below.refl _ _) (Nat.le_refl _) _ _) (by simp)]
      simp
    case hrow => have h_ := HC.out (w.alloc (.cells #[.func (.func a1) #[] #[]] 101)); rw [bytesOf_length] at h_; simpa using h_
    rintro e w' ⟨rfl, rfl⟩
    go_wp2
    go_ret
    exact ⟨by rw [← HRES.out]; rfl, bytes_below (below_alloc HB.out _) (by simp) _ _⟩
  · cases h
end Go.Proofs.Ytdjamphmndbmjaa.M
