/- The condition on the listed variables gives the words' premise 'Glob'. -/
import Derived.Test.YtcajhkbobpakaaaDoorLaidWords
import Derived.Test.YtcajhkbobpakaaaDoorRows
namespace Go.Proofs.YtcajhkbobpakaaaDoor.Q
open Go.RowKit
theorem glob_of_laid {W : World} (h : laidMetH Tryd.prog [("math/bits.deBruijn32tab", Rows.laid_math_bits_deBruijn32tab), ("math/bits.deBruijn64tab", Rows.laid_math_bits_deBruijn64tab), ("internal/strconv.uint64pow10", Rows.laid_internal_strconv_uint64pow10), ("treemerge/conflict.words", Rows.laid_treemerge_conflict_words), ("treemerge/conflict.names", Rows.laid_treemerge_conflict_names)] W) : Glob W := by
  rw [MakeChecks.laidMetH_plain _ _ _ (by kernel_rfl)] at h
  have one : GlobAt W 0 wordsA := by
    obtain ⟨g, t, cs, fuel, p, h1, h2, h3, h4⟩ := laid_reads h (n := "treemerge/conflict.words") (d := Rows.laid_treemerge_conflict_words) (by simp)
    obtain rfl := Option.some.inj ((show Tryd.prog.globalNamed "treemerge/conflict.words" = some 0 by kernel_rfl).symm.trans h1)
    obtain rfl := Option.some.inj ((show (Tryd.prog.globals[0]?).map (·.type) = some 73 by kernel_rfl).symm.trans h2)
    have hc := strings_of_array (zs := wordsL) Tryd.underlying73 Tryd.underlying9 (by kernel_rfl) (by kernel_rfl) h4
    have hb := block_of_var h1 h3
    have e : cs = wordsA := by
      apply Array.ext'
      rw [hc]
      rfl
    rw [e] at hb
    exact hb
  have two : GlobAt W 1 namesA := by
    obtain ⟨g, t, cs, fuel, p, h1, h2, h3, h4⟩ := laid_reads h (n := "treemerge/conflict.names") (d := Rows.laid_treemerge_conflict_names) (by simp)
    obtain rfl := Option.some.inj ((show Tryd.prog.globalNamed "treemerge/conflict.names" = some 1 by kernel_rfl).symm.trans h1)
    obtain rfl := Option.some.inj ((show (Tryd.prog.globals[1]?).map (·.type) = some 74 by kernel_rfl).symm.trans h2)
    have hc := strings_of_array (zs := namesL) Tryd.underlying74 Tryd.underlying9 (by kernel_rfl) (by kernel_rfl) h4
    have hb := block_of_var h1 h3
    have e : cs = namesA := by
      apply Array.ext'
      rw [hc]
      rfl
    rw [e] at hb
    exact hb
  have thr : GlobAt W 2 powA := by
    obtain ⟨g, t, cs, fuel, p, h1, h2, h3, h4⟩ := laid_reads h (n := "internal/strconv.uint64pow10") (d := Rows.laid_internal_strconv_uint64pow10) (by simp)
    obtain rfl := Option.some.inj ((show Tryd.prog.globalNamed "internal/strconv.uint64pow10" = some 2 by kernel_rfl).symm.trans h1)
    obtain rfl := Option.some.inj ((show (Tryd.prog.globals[2]?).map (·.type) = some 102 by kernel_rfl).symm.trans h2)
    have hc := ints_of_array (zs := Lib.pow10Tab) Tryd.underlying102 Tryd.underlying26 (by kernel_rfl) (by kernel_rfl) h4
    have hb := block_of_var h1 h3
    have e : cs = powA := by
      apply Array.ext'
      rw [hc]
      rfl
    rw [e] at hb
    exact hb
  exact ⟨one, two, thr⟩
end Go.Proofs.YtcajhkbobpakaaaDoor.Q
