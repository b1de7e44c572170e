/- The lists of keys that the laws take (chapter 32). -/
import Derived.Test.YtdbgdkbpamekpaaPureTwo
namespace Go.Proofs.Ytdbgdkbpamekpaa.Pure
set_option linter.unusedVariables false
open Go.RowKit Go.Proofs.Ytdbgdkbpamekpaa.Q Go.Proofs.YtdbgdkbpamekpaaW.PrintWords Go.Proofs.YtdbgdkbpamekpaaW.PrintLast

theorem short_of (a b c : List Int) : treemergelaw32_short.f a b c = some (decide (a.length ≤ 30 ∧ b.length ≤ 30 ∧ c.length ≤ 30)) := by
  unfold treemergelaw32_short.f
  by_cases h1 : a.length ≤ 30
  · rw [if_pos (by omega)]
    by_cases h2 : b.length ≤ 30
    · rw [if_pos (by omega)]
      congr 1
      exact decide_eq_decide.2 (by omega)
    · rw [if_neg (by omega)]
      simp [h2]
  · rw [if_neg (by omega)]
    simp [h1]

theorem short3_ev (l : List ByteArray) (m n : Int) (hm : m ≤ 1000) : ∃ b, Ev (fun k => treemergeref03_Short.f k l m n) b := by
  unfold treemergeref03_Short.f
  by_cases h : (l.length : Int) > m
  · exact ⟨false, Ev.pos h (Ev.now _)⟩
  · have key : ∀ d i, i + d = l.length → ∃ b, Ev (fun k => treemergeref03_Short.l0 k l n (i : Int)) b := by
      intro d
      induction d with
      | zero =>
        intro i hi
        exact ⟨true, Ev.step (fun k => by rw [treemergeref03_Short.l0]) (Ev.neg (by omega) (Ev.now _))⟩
      | succ d ih =>
        intro i hi
        obtain ⟨b, hb⟩ := ih (i + 1) (by omega)
        by_cases c : ((rdOf ByteArray.empty l (i : Int)).size : Int) > n
        · exact ⟨false, Ev.step (fun k => by rw [treemergeref03_Short.l0]) (Ev.pos (by omega) (Ev.pos (by omega) (Ev.pos c (Ev.now _))))⟩
        · refine ⟨b, Ev.step (fun k => by rw [treemergeref03_Short.l0]) (Ev.pos (by omega) (Ev.pos (by omega) (Ev.neg c ?_)))⟩
          rw [wrap_up (i := i) (n := l.length) (by omega) (by omega)]
          exact hb
    obtain ⟨b, hb⟩ := key l.length 0 (by omega)
    exact ⟨b, Ev.neg h hb⟩
end Go.Proofs.Ytdbgdkbpamekpaa.Pure
