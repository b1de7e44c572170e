
import Derived.Test.YtcfjdehpbckomaaWInv
import Derived.Test.YtcfjdehpbckomaaWFootNe
namespace Go.Proofs.YtcfjdehpbckomaaW.dS
open Go.RowKit
end Go.Proofs.YtcfjdehpbckomaaW.dS
namespace Go.Proofs.YtcfjdehpbckomaaW.jm
section
variable {ops : Array Oper} {a : Act} {o og : Oper} {g : Nat} {t : Tmp} {u : Bool}
end
end Go.Proofs.YtcfjdehpbckomaaW.jm
