-- Printed by a program of this session (printx.py) that runs the kit's print.py with texts of this session in the place of some functions; Lean checks it.
import Derived.Test.YtfephmhphkmegaaProg
import Derived.Test.YtfephmhphkmegaaHandW
import Derived.Below
import Derived.Deep.Draws
import Derived.Deep.AppendLies
import Derived.Maps.AppendAt
import Derived.OwnWalk
import Derived.Laws.BytesArg
import Derived.Laws.MakeOwn
import Derived.Laws.OwnMore
import Derived.Deep.OwnRows
import Derived.Tactics
import Derived.Lib.ConvBytes
import Derived.Laws.Slices
import Derived.WalkKit
import Derived.KernelRfl
import Derived.RowKit3
import Derived.Deep.LoopGhost
import Derived.Deep.QuietTactic
import Derived.BigQuiet
import Derived.WideLaws
import Derived.Deep.DeepCutAuto
import Derived.Deep.CutBlock
import Derived.Deep.RegionHeld3
import Derived.Laws.Rows
import Derived.Lib.AppendStr
import Derived.ArgAppend
import Derived.Laws.IdiomCopy
import Derived.OrdersHeld
import Derived.Laws.BitsLemmas
import Derived.RowKit
import Derived.Test.YtfephmhphkmegaaHandE
import Derived.Test.YtfephmhphkmegaaHandF
import Derived.Test.YtfephmhphkmegaaHandG
import Derived.Test.YtfephmhphkmegaaHandH
import Derived.Test.YtfephmhphkmegaaHandI
import Derived.Test.YtfephmhphkmegaaHandL
import Derived.Test.YtfephmhphkmegaaWWords
import Derived.Test.YtfephmhphkmegaaWLast
import Derived.Test.YtfephmhphkmegaaWTab
import Derived.Test.YtfephmhphkmegaaWFour
import Derived.Test.YtfephmhphkmegaaWQPut
import Derived.Test.YtfephmhphkmegaaWApart
import Derived.Test.YtfephmhphkmegaaWArr
import Derived.Test.YtfephmhphkmegaaWZeros
import Derived.Test.YtfephmhphkmegaaWFoot
import Derived.Test.YtfephmhphkmegaaWKept
import Derived.Test.YtfephmhphkmegaaWShare
import Derived.Test.YtfephmhphkmegaaWN
import Derived.Test.YtfephmhphkmegaaWFootNe
import Derived.Test.YtfephmhphkmegaaWAt
import Derived.Test.YtfephmhphkmegaaWEqStruct
import Derived.Test.YtfephmhphkmegaaWRepsOne
import Derived.Test.YtfephmhphkmegaaWInv
import Derived.Test.YtfephmhphkmegaaWInvWords
import Derived.Test.YtfephmhphkmegaaWGuard
import Derived.Test.YtfephmhphkmegaaWNEv
import Derived.Test.YtfephmhphkmegaaWMore
namespace Go.Proofs.Ytfephmhphkmegaa.PA
open Go.RowKit Go.Proofs.YtfephmhphkmegaaW.PrintWords Go.Proofs.YtfephmhphkmegaaW.PrintLast Go.Proofs.YtfephmhphkmegaaW.PrintMore
attribute [local go_sem] max2_int min2_int max_two min_two max_three min_three max_four min_four   -- for this text's walks alone
set_option linter.unusedVariables false
set_option linter.unusedSimpArgs false



def errW : Option Int → Value
  | none => .nilIface
  | some c => .iface 0 (.int .i64 c)
theorem errW_none : errW none = .nilIface := rfl
theorem errW_some (c : Int) : errW (some c) = .iface 0 (.int .i64 c) := rfl

theorem info5 : (Try.prog.info? 5).map (fun i => (i.zero, i.size, i.bytes)) = some (some (.int .u8 0), 1, 1) := by kernel_rfl
theorem info9 : (Try.prog.info? 9).map (fun i => (i.zero, i.size, i.bytes)) = some (some (.string ⟨#[]⟩), 1, 16) := by kernel_rfl
-- the values' own types

end Go.Proofs.Ytfephmhphkmegaa.PA
