-- Words that print.sh 35421559b90ae4d0a3588c463048766b98c2df88dd9212a6774a882060cdf62d laid; those that this claim does not say are left out, by a program of this session (prune.py).
import Derived.Test.YtcfjdehpbckomaaWTab
namespace Go.Proofs.YtcfjdehpbckomaaW.PrintLast
section
variable {P : Program} {ops : Array Oper} {Q : Exit → Act → World → Prop} {md : Region.Mode} {S : World → Prop} {ds : List Nat} {T : Bool × List (List Nat × List Nat)}
end
end Go.Proofs.YtcfjdehpbckomaaW.PrintLast
