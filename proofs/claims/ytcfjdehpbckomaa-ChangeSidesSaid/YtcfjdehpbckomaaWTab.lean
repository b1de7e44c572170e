-- Words that print.sh 35421559b90ae4d0a3588c463048766b98c2df88dd9212a6774a882060cdf62d laid; those that this claim does not say are left out, by a program of this session (prune.py).
import Derived.Test.YtcfjdehpbckomaaWLast
import Derived.Test.YtcfjdehpbckomaaWWords
namespace Go.Proofs.YtcfjdehpbckomaaW.PrintLast
open Go.Proofs.YtcfjdehpbckomaaW.PrintWords (Aside0)
section
variable {md : Region.Mode} {ops : Array Oper} {T : Bool × List (List Nat × List Nat)} {l l' li lj lk : Array Bool} {ds : List Nat} {i j k : Nat}
end
end Go.Proofs.YtcfjdehpbckomaaW.PrintLast
