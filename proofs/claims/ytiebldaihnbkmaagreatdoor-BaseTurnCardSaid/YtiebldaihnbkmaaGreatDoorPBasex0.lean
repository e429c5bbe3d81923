/- What is proved here: a part of the walk of rotulus/rotuluslaw14.BaseLen rotulus/rotuluslaw14.BaseAll: each Go function that it reaches does what a plain Lean function says. Printed by a program of mine over the kit's print. Conditions: the bounds in each statement. -/
import Derived.Test.YtiebldaihnbkmaaGreatDoorProg
import Derived.Below
import Derived.Deep.Draws
import Derived.Deep.AppendLies
import Derived.Maps.AppendAt
import Derived.OwnWalk
import Derived.Laws.BytesArg
import Derived.Laws.MakeOwn
import Derived.Laws.OwnMore
import Derived.Deep.OwnRows
import Derived.Tactics
import Derived.Lib.ConvBytes
import Derived.Laws.Slices
import Derived.WalkKit
import Derived.KernelRfl
import Derived.RowKit3
import Derived.Deep.LoopGhost
import Derived.Deep.QuietTactic
import Derived.BigQuiet
import Derived.WideLaws
import Derived.Deep.DeepCutAuto
import Derived.Deep.CutBlock
import Derived.Deep.RegionHeld3
import Derived.Laws.Rows
import Derived.Lib.AppendStr
import Derived.ArgAppend
import Derived.Laws.IdiomCopy
import Derived.OrdersHeld
import Derived.Laws.BitsLemmas
import Derived.RowKit
import Derived.Test.YtiebldaihnbkmaaGreatDoorWWords
import Derived.Test.YtiebldaihnbkmaaGreatDoorWLast
import Derived.Test.YtiebldaihnbkmaaGreatDoorWTab
import Derived.Test.YtiebldaihnbkmaaGreatDoorWFour
import Derived.Test.YtiebldaihnbkmaaGreatDoorWQPut
import Derived.Test.YtiebldaihnbkmaaGreatDoorWApart
import Derived.Test.YtiebldaihnbkmaaGreatDoorWArr
import Derived.Test.YtiebldaihnbkmaaGreatDoorWZeros
import Derived.Test.YtiebldaihnbkmaaGreatDoorWFoot
import Derived.Test.YtiebldaihnbkmaaGreatDoorWKept
import Derived.Test.YtiebldaihnbkmaaGreatDoorWShare
import Derived.Test.YtiebldaihnbkmaaGreatDoorWN
import Derived.Test.YtiebldaihnbkmaaGreatDoorWFootNe
import Derived.Test.YtiebldaihnbkmaaGreatDoorWAt
import Derived.Test.YtiebldaihnbkmaaGreatDoorWEqStruct
import Derived.Test.YtiebldaihnbkmaaGreatDoorWRepsOne
import Derived.Test.YtiebldaihnbkmaaGreatDoorWInv
import Derived.Test.YtiebldaihnbkmaaGreatDoorWInvWords
import Derived.Test.YtiebldaihnbkmaaGreatDoorWGuard
import Derived.Test.YtiebldaihnbkmaaGreatDoorWNEv
import Derived.Test.YtiebldaihnbkmaaGreatDoorWMore
namespace Go.Proofs.YtiebldaihnbkmaaGreatDoor.PBase
open Go.RowKit Go.Proofs.YtiebldaihnbkmaaGreatDoorW.PrintWords Go.Proofs.YtiebldaihnbkmaaGreatDoorW.PrintLast Go.Proofs.YtiebldaihnbkmaaGreatDoorW.PrintMore
attribute [local go_sem] max2_int min2_int max_two min_two max_three min_three max_four min_four   -- for this text's walks alone
set_option linter.unusedVariables false
set_option linter.unusedSimpArgs false



def errW : Option Int → Value
  | none => .nilIface
  | some c => .iface 0 (.int .i64 c)
theorem errW_none : errW none = .nilIface := rfl
theorem errW_some (c : Int) : errW (some c) = .iface 0 (.int .i64 c) := rfl

theorem info3 : (Tryz.prog.info? 3).map (fun i => (i.zero, i.size, i.bytes)) = some (some (.int .i64 0), 1, 8) := by kernel_rfl
theorem info5 : (Tryz.prog.info? 5).map (fun i => (i.zero, i.size, i.bytes)) = some (some (.int .u8 0), 1, 1) := by kernel_rfl
-- the values' own types

end Go.Proofs.YtiebldaihnbkmaaGreatDoor.PBase
