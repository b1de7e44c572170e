/- SequenceSides in plain Lean (chapter 32). -/
import Derived.Test.YtdbgdkbpamekpaaPureInter
namespace Go.Proofs.Ytdbgdkbpamekpaa.Pure
set_option linter.unusedVariables false
open Go.RowKit Go.Proofs.Ytdbgdkbpamekpaa.Q Go.Proofs.YtdbgdkbpamekpaaW.PrintWords Go.Proofs.YtdbgdkbpamekpaaW.PrintLast

theorem once_ev (l : List Int) (hl : l.length ≤ 1000) : Ev (fun k => treemergeref32_Once.f k l) (onceS l) := by
  have key : ∀ d i (out : List Int), i + d = l.length → out.length ≤ i → Ev (fun k => treemergeref32_Once.l0 k l out (i : Int)) (onceL (l.drop i) out) := by
    intro d
    induction d with
    | zero =>
      intro i out hi ho
      refine Ev.step (fun k => by rw [treemergeref32_Once.l0]) (Ev.neg (by omega) ?_)
      rw [List.drop_of_length_le (by omega), onceL]
      exact Ev.now _
    | succ d ih =>
      intro i out hi ho
      have h1 : i < l.length := by omega
      refine Ev.step (fun k => by rw [treemergeref32_Once.l0]) (Ev.pos (by omega) (Ev.pos (by omega) ?_))
      rw [rd_at h1, List.drop_eq_getElem_cons h1, onceL, wrap_up h1 (by omega)]
      refine (has_ev out l[i] (by omega)).bind ?_
      by_cases c : l[i] ∈ out
      · refine Ev.pos (by simp [c]) ?_
        rw [if_pos c]
        exact ih (i + 1) out (by omega) (by omega)
      · refine Ev.neg (by simp [c]) (Ev.pos (by omega) ?_)
        rw [if_neg c]
        exact ih (i + 1) (out ++ [l[i]]) (by omega) (by simp; omega)
  exact key l.length 0 [] (by omega) (by simp)
theorem SequenceSides (a b : List Int) : Ev (fun k => treemergelaw32_SequenceSides.f k a b) true := by
  unfold treemergelaw32_SequenceSides.f
  refine Ev.known (short_of a b []) ?_
  by_cases h : a.length ≤ 30 ∧ b.length ≤ 30 ∧ ([] : List Int).length ≤ 30
  · have hoa := once_len a
    have hob := once_len b
    refine Ev.pos (by simpa using h) ((once_ev b (by omega)).bind ((merge_left a a b (by omega) (by omega) (by omega) rfl).bind ((merge_right a b a (by omega) (by omega) (by omega) rfl).bind ((merge_both a b (by omega) (by omega)).bind ((once_ev a (by omega)).bind ((merge_left a (onceS a) b (by omega) (by omega) (by omega) (once_of_nodup (once_nodup a))).bind (awake_ev.bind (Ev.pos rfl (Ev.pos rfl (Ev.pos rfl (Ev.pos rfl (Ev.pos rfl ?_))))))))))))
    have hz : (onceS b, true).1.length ≤ 140737488351232 := by
      show (onceS b).length ≤ _
      omega
    exact Ev.bind (equal_self hz rfl) (Ev.pos rfl (Ev.bind (equal_self hz rfl) (Ev.pos rfl (Ev.bind (equal_self hz rfl) (Ev.pos rfl (Ev.bind (equal_self hz rfl) (Ev.now _)))))))
  · exact Ev.neg (by simpa using h) (awake_ev.bind (Ev.now _))
end Go.Proofs.Ytdbgdkbpamekpaa.Pure
