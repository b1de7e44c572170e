/- SequenceKept in plain Lean (chapter 32). -/
import Derived.Test.YtdbgdkbpamekpaaPureKept
import Derived.Test.YtdbgdkbpamekpaaPureAwake
namespace Go.Proofs.Ytdbgdkbpamekpaa.Pure
set_option linter.unusedVariables false
open Go.RowKit Go.Proofs.Ytdbgdkbpamekpaa.Q Go.Proofs.YtdbgdkbpamekpaaW.PrintWords Go.Proofs.YtdbgdkbpamekpaaW.PrintLast

theorem short_of (a b c : List Int) : treemergelaw32_short.f a b c = some (decide (a.length ≤ 30 ∧ b.length ≤ 30 ∧ c.length ≤ 30)) := by
  unfold treemergelaw32_short.f
  by_cases h1 : a.length ≤ 30
  · rw [if_pos (by omega)]
    by_cases h2 : b.length ≤ 30
    · rw [if_pos (by omega)]
      congr 1
      exact decide_eq_decide.2 (by omega)
    · rw [if_neg (by omega)]
      simp [h2]
  · rw [if_neg (by omega)]
    simp [h1]
theorem SequenceKept (a b c : List Int) : Ev (fun k => treemergelaw32_SequenceKept.f k a b c) true := by
  unfold treemergelaw32_SequenceKept.f
  refine awake_ev.bind (Ev.pos rfl (Ev.known (short_of a b c) ?_))
  by_cases h : a.length ≤ 30 ∧ b.length ≤ 30 ∧ c.length ≤ 30
  · refine Ev.pos (by simp [h]) (Ev.known (a := keptS a b c) (by rw [sequence_Kept.f, if_pos (by omega)]) ((kept_ev a b c h.1 h.2.1 h.2.2).bind ?_))
    refine Ev.bind (equal_self ?_ rfl) (Ev.now _)
    have := keptS_len a b c
    omega
  · exact Ev.neg (by simpa using h) (Ev.now _)

end Go.Proofs.Ytdbgdkbpamekpaa.Pure
