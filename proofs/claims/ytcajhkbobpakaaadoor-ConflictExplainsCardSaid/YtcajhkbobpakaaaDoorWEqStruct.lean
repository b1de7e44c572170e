-- Words that print.sh 35421559b90ae4d0a3588c463048766b98c2df88dd9212a6774a882060cdf62d laid; those that this claim does not say are left out, by a program of this session (prune.py).
import Derived.Test.YtcajhkbobpakaaaDoorWWords
import Derived.Laws.StructEq
namespace Go.Proofs.YtcajhkbobpakaaaDoorW.PrintWords
open Go.RowKit
section
variable {P : Program} {d : Nat} {xs ys : Array Value} {f : Field} {fs : List Field} {a b : Value} {r s : Bool} {w : World}
end
end Go.Proofs.YtcajhkbobpakaaaDoorW.PrintWords
