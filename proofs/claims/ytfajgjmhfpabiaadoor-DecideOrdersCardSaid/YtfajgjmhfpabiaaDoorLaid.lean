/- The condition on the listed variables gives the words' premise 'Glob'. -/
import Derived.Test.YtfajgjmhfpabiaaDoorLaidWords
import Derived.Test.YtfajgjmhfpabiaaDoorRows
namespace Go.Proofs.YtfajgjmhfpabiaaDoor.Q
open Go.RowKit
theorem glob_of_laid {W : World} (h : laidMetH Tryd.prog [("treemerge/digest.digits", Rows.laid_treemerge_digest_digits)] W) : Glob W := by
  rw [MakeChecks.laidMetH_plain _ _ _ (by kernel_rfl)] at h
  obtain ⟨g, t, cs, fuel, p, h1, h2, h3, h4⟩ := laid_reads h (n := "treemerge/digest.digits") (d := Rows.laid_treemerge_digest_digits) (by simp)
  obtain rfl := Option.some.inj ((show Tryd.prog.globalNamed "treemerge/digest.digits" = some 0 by kernel_rfl).symm.trans h1)
  obtain rfl := Option.some.inj ((show (Tryd.prog.globals[0]?).map (·.type) = some 112 by kernel_rfl).symm.trans h2)
  have hc := ints_of_array (zs := digs) Tryd.underlying112 Tryd.underlying5 (by kernel_rfl) (by kernel_rfl) h4
  have hb := block_of_var h1 h3
  have e : cs = digsA := by
    apply Array.ext'
    rw [hc]
    rfl
  rw [e] at hb
  exact hb
end Go.Proofs.YtfajgjmhfpabiaaDoor.Q
