-- Written by a program of this session (mk.py) out of the translation; Lean checks it.
import Derived.Test.YtjojdpbopbmnlaaDoorProg
import Derived.Below
import Derived.Deep.Draws
import Derived.Deep.AppendLies
import Derived.Maps.AppendAt
import Derived.OwnWalk
import Derived.Laws.BytesArg
import Derived.Laws.MakeOwn
import Derived.Laws.OwnMore
import Derived.Deep.OwnRows
import Derived.Tactics
import Derived.Lib.ConvBytes
import Derived.Laws.Slices
import Derived.WalkKit
import Derived.KernelRfl
import Derived.RowKit3
import Derived.Deep.LoopGhost
import Derived.Deep.QuietTactic
import Derived.BigQuiet
import Derived.WideLaws
import Derived.Deep.DeepCutAuto
import Derived.Deep.CutBlock
import Derived.Deep.RegionHeld3
import Derived.Laws.Rows
import Derived.Lib.AppendStr
import Derived.ArgAppend
import Derived.Laws.IdiomCopy
import Derived.OrdersHeld
import Derived.Laws.BitsLemmas
import Derived.RowKit
import Derived.Test.YtjojdpbopbmnlaaDoorWWords
import Derived.Test.YtjojdpbopbmnlaaDoorWLast
import Derived.Test.YtjojdpbopbmnlaaDoorWTab
import Derived.Test.YtjojdpbopbmnlaaDoorWFour
import Derived.Test.YtjojdpbopbmnlaaDoorWQPut
import Derived.Test.YtjojdpbopbmnlaaDoorWApart
import Derived.Test.YtjojdpbopbmnlaaDoorWArr
import Derived.Test.YtjojdpbopbmnlaaDoorWZeros
import Derived.Test.YtjojdpbopbmnlaaDoorWFoot
import Derived.Test.YtjojdpbopbmnlaaDoorWKept
import Derived.Test.YtjojdpbopbmnlaaDoorWShare
import Derived.Test.YtjojdpbopbmnlaaDoorWN
import Derived.Test.YtjojdpbopbmnlaaDoorWFootNe
import Derived.Test.YtjojdpbopbmnlaaDoorWAt
import Derived.Test.YtjojdpbopbmnlaaDoorWEqStruct
import Derived.Test.YtjojdpbopbmnlaaDoorWRepsOne
import Derived.Test.YtjojdpbopbmnlaaDoorWInv
import Derived.Test.YtjojdpbopbmnlaaDoorWInvWords
import Derived.Test.YtjojdpbopbmnlaaDoorWGuard
import Derived.Test.YtjojdpbopbmnlaaDoorWNEv
import Derived.Test.YtjojdpbopbmnlaaDoorWMore
namespace Go.Proofs.YtjojdpbopbmnlaaDoor.Q
open Go.RowKit Go.Proofs.YtjojdpbopbmnlaaDoorW.PrintWords Go.Proofs.YtjojdpbopbmnlaaDoorW.PrintLast Go.Proofs.YtjojdpbopbmnlaaDoorW.PrintMore
attribute [local go_sem] max2_int min2_int max_two min_two max_three min_three max_four min_four   -- for this text's walks alone
set_option linter.unusedVariables false
set_option linter.unusedSimpArgs false



def errW : Option Int → Value
  | none => .nilIface
  | some c => .iface 0 (.int .i64 c)
theorem errW_none : errW none = .nilIface := rfl
theorem errW_some (c : Int) : errW (some c) = .iface 0 (.int .i64 c) := rfl

theorem info5 : (Tryd.prog.info? 5).map (fun i => (i.zero, i.size, i.bytes)) = some (some (.int .u8 0), 1, 1) := by kernel_rfl
-- the values' own types

end Go.Proofs.YtjojdpbopbmnlaaDoor.Q
