/- The condition on the listed variables gives the words' premise 'Glob'. -/
import Derived.Test.YtfajgjmhfpabiaaDoorLaidWords
import Derived.Test.YtfajgjmhfpabiaaDoorRows
namespace Go.Proofs.YtfajgjmhfpabiaaDoor.Q
open Go.RowKit
theorem glob_of_laid {W : World} (h : laidMetH Tryd.prog [("math/bits.deBruijn32tab", Rows.laid_math_bits_deBruijn32tab), ("math/bits.deBruijn64tab", Rows.laid_math_bits_deBruijn64tab), ("internal/strconv.uint64pow10", Rows.laid_internal_strconv_uint64pow10), ("treemerge/digest.digits", Rows.laid_treemerge_digest_digits)] W) : Glob W := by
  rw [MakeChecks.laidMetH_plain _ _ _ (by kernel_rfl)] at h
  have one : GlobAt W 0 digsA := by
    obtain ⟨g, t, cs, fuel, p, h1, h2, h3, h4⟩ := laid_reads h (n := "treemerge/digest.digits") (d := Rows.laid_treemerge_digest_digits) (by simp)
    obtain rfl := Option.some.inj ((show Tryd.prog.globalNamed "treemerge/digest.digits" = some 0 by kernel_rfl).symm.trans h1)
    obtain rfl := Option.some.inj ((show (Tryd.prog.globals[0]?).map (·.type) = some 112 by kernel_rfl).symm.trans h2)
    have hc := ints_of_array (zs := digs) Tryd.underlying112 Tryd.underlying5 (by kernel_rfl) (by kernel_rfl) h4
    have hb := block_of_var h1 h3
    have e : cs = digsA := by
      apply Array.ext'
      rw [hc]
      rfl
    rw [e] at hb
    exact hb
  have two : GlobAt W 2 powA := by
    obtain ⟨g, t, cs, fuel, p, h1, h2, h3, h4⟩ := laid_reads h (n := "internal/strconv.uint64pow10") (d := Rows.laid_internal_strconv_uint64pow10) (by simp)
    obtain rfl := Option.some.inj ((show Tryd.prog.globalNamed "internal/strconv.uint64pow10" = some 2 by kernel_rfl).symm.trans h1)
    obtain rfl := Option.some.inj ((show (Tryd.prog.globals[2]?).map (·.type) = some 131 by kernel_rfl).symm.trans h2)
    have hc := ints_of_array (zs := Lib.pow10Tab) Tryd.underlying131 Tryd.underlying33 (by kernel_rfl) (by kernel_rfl) h4
    have hb := block_of_var h1 h3
    have e : cs = powA := by
      apply Array.ext'
      rw [hc]
      rfl
    rw [e] at hb
    exact hb
  exact ⟨one, two⟩
end Go.Proofs.YtfajgjmhfpabiaaDoor.Q
