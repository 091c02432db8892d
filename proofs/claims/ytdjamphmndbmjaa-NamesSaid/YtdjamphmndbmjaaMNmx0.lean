-- WRITTEN BY wip/drv.py, a program of this repo that drives the kit's print.py beside contracts typed by hand. Lean checks it.
import Derived.Test.YtdjamphmndbmjaaProg
import Derived.Below
import Derived.Deep.Draws
import Derived.Deep.AppendLies
import Derived.Maps.AppendAt
import Derived.OwnWalk
import Derived.Laws.BytesArg
import Derived.Laws.MakeOwn
import Derived.Laws.OwnMore
import Derived.Deep.OwnRows
import Derived.Tactics
import Derived.Lib.ConvBytes
import Derived.Laws.Slices
import Derived.WalkKit
import Derived.KernelRfl
import Derived.RowKit3
import Derived.Deep.LoopGhost
import Derived.Deep.QuietTactic
import Derived.BigQuiet
import Derived.WideLaws
import Derived.Deep.DeepCutAuto
import Derived.Deep.CutBlock
import Derived.Deep.RegionHeld3
import Derived.Laws.Rows
import Derived.Lib.AppendStr
import Derived.ArgAppend
import Derived.Laws.IdiomCopy
import Derived.OrdersHeld
import Derived.Laws.BitsLemmas
import Derived.RowKit
import Derived.Test.YtdjamphmndbmjaaWWords
import Derived.Test.YtdjamphmndbmjaaWLast
import Derived.Test.YtdjamphmndbmjaaWTab
import Derived.Test.YtdjamphmndbmjaaWFour
import Derived.Test.YtdjamphmndbmjaaWQPut
import Derived.Test.YtdjamphmndbmjaaWApart
import Derived.Test.YtdjamphmndbmjaaWArr
import Derived.Test.YtdjamphmndbmjaaWZeros
import Derived.Test.YtdjamphmndbmjaaWFoot
import Derived.Test.YtdjamphmndbmjaaWKept
import Derived.Test.YtdjamphmndbmjaaWShare
import Derived.Test.YtdjamphmndbmjaaWN
import Derived.Test.YtdjamphmndbmjaaWFootNe
import Derived.Test.YtdjamphmndbmjaaWAt
import Derived.Test.YtdjamphmndbmjaaWEqStruct
import Derived.Test.YtdjamphmndbmjaaWRepsOne
import Derived.Test.YtdjamphmndbmjaaWInv
import Derived.Test.YtdjamphmndbmjaaWInvWords
import Derived.Test.YtdjamphmndbmjaaWGuard
import Derived.Test.YtdjamphmndbmjaaWNEv
import Derived.Test.YtdjamphmndbmjaaWMore
namespace Go.Proofs.Ytdjamphmndbmjaa.MNm
open Go.RowKit Go.Proofs.YtdjamphmndbmjaaW.PrintWords Go.Proofs.YtdjamphmndbmjaaW.PrintLast Go.Proofs.YtdjamphmndbmjaaW.PrintMore
attribute [local go_sem] max2_int min2_int max_two min_two max_three min_three max_four min_four   -- for this text's walks alone
set_option linter.unusedVariables false
set_option linter.unusedSimpArgs false



def errW : Option Int → Value
  | none => .nilIface
  | some c => .iface 0 (.int .i64 c)
theorem errW_none : errW none = .nilIface := rfl
theorem errW_some (c : Int) : errW (some c) = .iface 0 (.int .i64 c) := rfl

theorem info9 : (Try.prog.info? 9).map (fun i => (i.zero, i.size, i.bytes)) = some (some (.string ⟨#[]⟩), 1, 16) := by kernel_rfl
-- the values' own types

end Go.Proofs.Ytdjamphmndbmjaa.MNm
