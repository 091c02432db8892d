/- strings.Compare: which of two texts is ahead, byte by byte: -1, 0, 1. By hand; no condition. -/
import Derived.Test.YtdjamphmndbmjaaMx0
import Derived.Lib.Strings
import Derived.Lib.Bytealg
import Derived.Laws.Externs
namespace Go.Proofs.Ytdjamphmndbmjaa.M
open Go.RowKit Go.Proofs.YtdjamphmndbmjaaW.PrintWords Go.Proofs.YtdjamphmndbmjaaW.PrintLast Go.Proofs.YtdjamphmndbmjaaW.PrintMore
set_option linter.unusedVariables false
set_option linter.unusedSimpArgs false

def bcmp (a b : ByteArray) : Int := Lib.compareBytes a.data.toList b.data.toList

set_option maxRecDepth 100000 in
theorem compareString_calls (a b : ByteArray) (w : World) : Calls Try.prog 86 #[.string a, .string b] w fun e w' => e = .returned (.int .i64 (bcmp a b)) ∧ w = w' := by
  go_enter Try.func86, Try.ntmps86
  go_wp2
  rw [run_callFunc_extern Try.func99 (by kernel_rfl) (by kernel_rfl) (by kernel_rfl) (e := Extern.BytealgCompare.compare) (by kernel_rfl), Lib.run_compareString]
  simp only [Result.andThen]
  rw [Oper.upon_value]
  go_wp2
  go_ret
  exact ⟨rfl, rfl⟩

def strings_Compare.f (a0 : ByteArray) (a1 : ByteArray) : Option Int := some (bcmp a0 a1)
theorem strings_Compare.calls (a0 : ByteArray) (a1 : ByteArray) (r : Int) (w : World) (h : strings_Compare.f a0 a1 = some r) :
    Calls Try.prog 59 #[.string a0, .string a1] w fun e w' => e = .returned (.int .i64 r) ∧ Drawn0 w w' := by
  obtain rfl := Option.some.inj h
  have hc := fun W => compareString_calls a0 a1 W
  generalize bcmp a0 a1 = x at hc ⊢
  clear h
  go_enter Try.func59, Try.ntmps59
  go_wp2_with (go_at_call 86; refine (hc _).mono ?_; rintro e w' ⟨rfl, rfl⟩)
  go_ret
  exact ⟨rfl, Drawn0.refl _⟩
end Go.Proofs.Ytdjamphmndbmjaa.M
