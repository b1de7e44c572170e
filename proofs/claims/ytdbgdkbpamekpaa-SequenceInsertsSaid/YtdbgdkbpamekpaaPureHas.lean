/- The reference's membership (chapter 32). -/
import Derived.Test.YtdbgdkbpamekpaaPureBase
namespace Go.Proofs.Ytdbgdkbpamekpaa.Pure
set_option linter.unusedVariables false
open Go.RowKit Go.Proofs.Ytdbgdkbpamekpaa.Q Go.Proofs.YtdbgdkbpamekpaaW.PrintWords Go.Proofs.YtdbgdkbpamekpaaW.PrintLast

theorem has_ev (l : List Int) (x : Int) (hn : l.length ≤ 140737488351232) : Ev (fun k => treemergeref32_Has.f k l x) (decide (x ∈ l)) := by
  have key : ∀ j i, i + j = l.length → Ev (fun k => treemergeref32_Has.l0 k l x (i : Int)) (decide (x ∈ l.drop i)) := by
    intro j
    induction j with
    | zero =>
      intro i hi
      refine Ev.step (fun k => by rw [treemergeref32_Has.l0]) (Ev.neg (by omega) ?_)
      rw [List.drop_of_length_le (by omega)]
      exact Ev.cast (by simp) (Ev.now _)
    | succ j ih =>
      intro i hi
      have h1 : i < l.length := by omega
      refine Ev.step (fun k => by rw [treemergeref32_Has.l0]) (Ev.pos (by omega) (Ev.pos (by omega) ?_))
      rw [rd_at h1, List.drop_eq_getElem_cons h1, wrap_up h1 hn]
      by_cases h : l[i] = x
      · exact Ev.pos h (Ev.cast (by simp [h]) (Ev.now _))
      · refine Ev.neg h (Ev.cast ?_ (ih (i + 1) (by omega)))
        exact decide_eq_decide.2 (by rw [List.mem_cons]; exact ⟨.inr, fun e => e.resolve_left (fun e => h e.symm)⟩)
  have := key l.length 0 (by omega)
  exact this

end Go.Proofs.Ytdbgdkbpamekpaa.Pure
