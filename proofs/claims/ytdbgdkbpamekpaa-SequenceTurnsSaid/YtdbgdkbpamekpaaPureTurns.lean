/- SequenceTurns in plain Lean (chapter 32). -/
import Derived.Test.YtdbgdkbpamekpaaPureTwo
namespace Go.Proofs.Ytdbgdkbpamekpaa.Pure
set_option linter.unusedVariables false
open Go.RowKit Go.Proofs.Ytdbgdkbpamekpaa.Q Go.Proofs.YtdbgdkbpamekpaaW.PrintWords Go.Proofs.YtdbgdkbpamekpaaW.PrintLast

theorem short3_ev (l : List ByteArray) (m n : Int) (hm : m ≤ 1000) : ∃ b, Ev (fun k => treemergeref03_Short.f k l m n) b := by
  unfold treemergeref03_Short.f
  by_cases h : (l.length : Int) > m
  · exact ⟨false, Ev.pos h (Ev.now _)⟩
  · have key : ∀ d i, i + d = l.length → ∃ b, Ev (fun k => treemergeref03_Short.l0 k l n (i : Int)) b := by
      intro d
      induction d with
      | zero =>
        intro i hi
        exact ⟨true, Ev.step (fun k => by rw [treemergeref03_Short.l0]) (Ev.neg (by omega) (Ev.now _))⟩
      | succ d ih =>
        intro i hi
        obtain ⟨b, hb⟩ := ih (i + 1) (by omega)
        by_cases c : ((rdOf ByteArray.empty l (i : Int)).size : Int) > n
        · exact ⟨false, Ev.step (fun k => by rw [treemergeref03_Short.l0]) (Ev.pos (by omega) (Ev.pos (by omega) (Ev.pos c (Ev.now _))))⟩
        · refine ⟨b, Ev.step (fun k => by rw [treemergeref03_Short.l0]) (Ev.pos (by omega) (Ev.pos (by omega) (Ev.neg c ?_)))⟩
          rw [wrap_up (i := i) (n := l.length) (by omega) (by omega)]
          exact hb
    obtain ⟨b, hb⟩ := key l.length 0 (by omega)
    exact ⟨b, Ev.neg h hb⟩
theorem SequenceTurns (a b c : List Int) (ks : List ByteArray) : Ev (fun k => treemergelaw32_SequenceTurns.f k a b c ks) true := by
  have no : Ev (fun k => treemergelaw32_SequenceTurns.j0 k a b c ks true) true := Ev.step (fun k => by rw [treemergelaw32_SequenceTurns.j0]) (Ev.pos rfl (awake_ev.bind (Ev.now _)))
  unfold treemergelaw32_SequenceTurns.f
  refine Ev.known (short_of a b c) ?_
  by_cases h : a.length ≤ 30 ∧ b.length ≤ 30 ∧ c.length ≤ 30
  · refine Ev.pos (by simp [h]) ?_
    obtain ⟨s, hs⟩ := short3_ev ks 60 100 (by decide)
    refine hs.bind ?_
    cases s with
    | false => exact no
    | true =>
      obtain ⟨m, m1, m2, ml⟩ := merge_two a b c (by omega) (by omega) (by omega)
      obtain ⟨f, f1, f2, fl⟩ := free_two a b c ks (by omega) (by omega) (by omega)
      refine Ev.step (fun k => by rw [treemergelaw32_SequenceTurns.j0]) (Ev.neg (by simp) (m1.bind (m2.bind (f1.bind (f2.bind (awake_ev.bind (Ev.pos rfl (Ev.pos (beq_self_eq_true _) (Ev.pos (beq_self_eq_true _) ?_)))))))))
      refine Ev.bind (equal_self (by omega) rfl) (Ev.pos rfl (Ev.bind (equal_self (by omega) rfl) (Ev.pos rfl ?_)))
      refine Ev.known (a := keptS a b c) (by rw [sequence_Kept.f, if_pos (by omega)]) (Ev.known (a := keptS a c b) (by rw [sequence_Kept.f, if_pos (by omega)]) ?_)
      refine Ev.bind (equal_self ?_ (kept_swap a b c)) (Ev.now _)
      have := keptS_len a b c
      omega
  · exact Ev.neg (by simpa using h) no
end Go.Proofs.Ytdbgdkbpamekpaa.Pure
