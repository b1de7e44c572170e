/- The pure statements of chapter 2's laws. -/
import Derived.Test.YtjojdpbopbmnlaaDoorPureHex
namespace Go.Proofs.YtjojdpbopbmnlaaDoor.Pure
open Go.RowKit Go.Proofs.YtjojdpbopbmnlaaDoor.Q Go.Proofs.YtjojdpbopbmnlaaDoorW.PrintWords Go.Proofs.YtjojdpbopbmnlaaDoorW.PrintLast
theorem DigestParses (s : ByteArray) (_ : s.size ≤ 140737488351232) : Ev (fun k => treemergelaw02_DigestParses.f k s) true := parses_law s
theorem DigestHex (d : Int) (s : ByteArray) (hd : (Lit.int .u64 d).wf = true) (_ : s.size ≤ 140737488351232) : Ev (fun k => treemergelaw02_DigestHex.f k d s) true := hex_law d s hd
theorem DigestSteps (s : ByteArray) (c : Int) (hs : s.size ≤ 140737488351232) (hc : (Lit.int .u8 c).wf = true) : Ev (fun k => treemergelaw02_DigestSteps.f k s c) true := step_law s c hs hc
theorem DigestSums (s : ByteArray) (a b : Int) (hs : s.size ≤ 140737488351232) (_ : (Lit.int .u64 a).wf = true) (_ : (Lit.int .u64 b).wf = true) : Ev (fun k => treemergelaw02_DigestSums.f k s a b) true := sum_law s a b hs
theorem DigestLists (l : List ByteArray) (hs : ∀ s ∈ l, s.size ≤ 140737488351232) (hl : l.length * 16 ≤ 140737488351232) : Ev (fun k => treemergelaw02_DigestLists.f k l) true := list_law l hl hs
theorem DigestExtends (l : List ByteArray) (hs : ∀ s ∈ l, s.size ≤ 140737488351232) (hl : l.length * 16 ≤ 140737488351232) : Ev (fun k => treemergelaw02_DigestExtends.f k l) true := extends_law l hl hs
end Go.Proofs.YtjojdpbopbmnlaaDoor.Pure
