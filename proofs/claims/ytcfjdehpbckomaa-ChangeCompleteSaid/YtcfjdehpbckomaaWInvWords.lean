-- Words that print.sh 35421559b90ae4d0a3588c463048766b98c2df88dd9212a6774a882060cdf62d laid; those that this claim does not say are left out, by a program of this session (prune.py).
import Derived.Test.YtcfjdehpbckomaaWInv
import Derived.Test.YtcfjdehpbckomaaWFootNe
namespace Go.Proofs.YtcfjdehpbckomaaW.PrintWords
open Go.RowKit
end Go.Proofs.YtcfjdehpbckomaaW.PrintWords
namespace Go.Proofs.YtcfjdehpbckomaaW.PrintLast
section
variable {ops : Array Oper} {a : Act} {o og : Oper} {g : Nat} {t : Tmp} {u : Bool}
end
end Go.Proofs.YtcfjdehpbckomaaW.PrintLast
