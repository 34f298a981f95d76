/- Calls of the functions of the given program return what the plain Lean functions of the same names return; and a row of a law out of its pure statement. Written by a program of this session out of the translation; Lean checks it. No condition. -/
import Derived.Test.YtnbolemfldmohaaProg
import Derived.Below
import Derived.Deep.Draws
import Derived.Deep.AppendLies
import Derived.Maps.AppendAt
import Derived.OwnWalk
import Derived.Laws.BytesArg
import Derived.Laws.MakeOwn
import Derived.Laws.OwnMore
import Derived.Deep.OwnRows
import Derived.Tactics
import Derived.Lib.ConvBytes
import Derived.Laws.Slices
import Derived.WalkKit
import Derived.KernelRfl
import Derived.RowKit3
import Derived.Deep.LoopGhost
import Derived.Deep.QuietTactic
import Derived.BigQuiet
import Derived.WideLaws
import Derived.Deep.DeepCutAuto
import Derived.Deep.CutBlock
import Derived.Deep.RegionHeld3
import Derived.Laws.Rows
import Derived.Lib.AppendStr
import Derived.ArgAppend
import Derived.Laws.IdiomCopy
import Derived.OrdersHeld
import Derived.Laws.BitsLemmas
import Derived.RowKit
import Derived.Test.YtnbolemfldmohaaWWords
import Derived.Test.YtnbolemfldmohaaWLast
import Derived.Test.YtnbolemfldmohaaWTab
import Derived.Test.YtnbolemfldmohaaWFour
import Derived.Test.YtnbolemfldmohaaWQPut
import Derived.Test.YtnbolemfldmohaaWApart
import Derived.Test.YtnbolemfldmohaaWArr
import Derived.Test.YtnbolemfldmohaaWZeros
import Derived.Test.YtnbolemfldmohaaWFoot
import Derived.Test.YtnbolemfldmohaaWKept
import Derived.Test.YtnbolemfldmohaaWShare
import Derived.Test.YtnbolemfldmohaaWN
import Derived.Test.YtnbolemfldmohaaWFootNe
import Derived.Test.YtnbolemfldmohaaWAt
import Derived.Test.YtnbolemfldmohaaWEqStruct
import Derived.Test.YtnbolemfldmohaaWRepsOne
import Derived.Test.YtnbolemfldmohaaWInv
import Derived.Test.YtnbolemfldmohaaWInvWords
import Derived.Test.YtnbolemfldmohaaWGuard
import Derived.Test.YtnbolemfldmohaaWNEv
import Derived.Test.YtnbolemfldmohaaWMore
namespace Go.Proofs.Ytnbolemfldmohaa.P
open Go.RowKit Go.Proofs.YtnbolemfldmohaaW.PrintWords Go.Proofs.YtnbolemfldmohaaW.PrintLast Go.Proofs.YtnbolemfldmohaaW.PrintMore
attribute [local go_sem] max2_int min2_int max_two min_two max_three min_three max_four min_four   -- for this text's walks alone
set_option linter.unusedVariables false
set_option linter.unusedSimpArgs false



def errW : Option Int → Value
  | none => .nilIface
  | some c => .iface 0 (.int .i64 c)
theorem errW_none : errW none = .nilIface := rfl
theorem errW_some (c : Int) : errW (some c) = .iface 0 (.int .i64 c) := rfl

theorem info3 : (Try.prog.info? 3).map (fun i => (i.zero, i.size, i.bytes)) = some (some (.int .i64 0), 1, 8) := by kernel_rfl
-- the values' own types

end Go.Proofs.Ytnbolemfldmohaa.P
