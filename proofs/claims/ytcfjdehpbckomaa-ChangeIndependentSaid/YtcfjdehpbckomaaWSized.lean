
import Derived.SizedLaws
import Derived.ChangeSlices
namespace Go.Proofs.YtcfjdehpbckomaaW.dS
open Go.ChangeShapes Go.WideShapes
end Go.Proofs.YtcfjdehpbckomaaW.dS
