/- Merge, Free and Kept do not depend on which side is the left one (chapter 32). -/
import Derived.Test.YtdbgdkbpamekpaaPureDiv
namespace Go.Proofs.Ytdbgdkbpamekpaa.Pure
set_option linter.unusedVariables false
open Go.RowKit Go.Proofs.Ytdbgdkbpamekpaa.Q Go.Proofs.YtdbgdkbpamekpaaW.PrintWords Go.Proofs.YtdbgdkbpamekpaaW.PrintLast

theorem merge_two (l0 l1 l2 : List Int) (h0 : l0.length ≤ 1000) (h1 : l1.length ≤ 1000) (h2 : l2.length ≤ 1000) :
    ∃ r, Ev (fun K => sequence_Merge.f K l0 l1 l2) r ∧ Ev (fun K => sequence_Merge.f K l0 l2 l1) r ∧ r.1.length ≤ 100000000 := by
  obtain ⟨x, y, o, ps, res, D, hr, hb, e1, e2⟩ := join_ev (oth := fun _ => none) (M := 1000) (by decide) (fun _ => rfl) l0 l1 l2 h0 h1 h2 ⟨h1, h2⟩ (fun p _ _ _ => by simp)
  obtain ⟨out, ok⟩ := res
  have key : ∀ kp : List Int, ∃ r : List Int × Bool, (if ok = false then some (([] : List Int), false) else if out.length ≤ 2000000000 then (if (onceS out).length = out.length then (if out.length = kp.length then some (out, true) else some ([], false)) else some ([], false)) else none) = some r ∧ r.1.length ≤ 100000000 := by
    intro kp
    dsimp only at hb
    cases ok with
    | false => exact ⟨_, if_pos rfl, by simp⟩
    | true =>
      rw [if_neg (by simp), if_pos (by omega)]
      by_cases c1 : (onceS out).length = out.length
      · rw [if_pos c1]
        by_cases c2 : out.length = kp.length
        · rw [if_pos c2]
          exact ⟨_, rfl, hb⟩
        · rw [if_neg c2]
          exact ⟨_, rfl, by simp⟩
      · rw [if_neg c1]
        exact ⟨_, rfl, by simp⟩
  obtain ⟨r, hr, hl⟩ := key (keptS l0 l1 l2)
  refine ⟨r, ?_, ?_, hl⟩
  · unfold sequence_Merge.f
    exact e1.bind (Ev.known hr (Ev.now _) |> fun h => by simpa [hr] using (Ev.now r))
  · unfold sequence_Merge.f
    rw [kept_swap l0 l2 l1]
    exact e2.bind (by simpa [hr] using (Ev.now r))
theorem sortK_congr {ks : List ByteArray} {l m : List Int} (hp : l.Perm m) : sortK ks l = sortK ks m := by
  have hO := swo_ltK ks
  have s1 : (sortK ks m).Pairwise (fun x y => ltK ks y x = false) := by
    have := List.pairwise_mergeSort (le := fun x y : Int => !ltK ks y x) (fun a b c h1 h2 => by
      simp only [Bool.not_eq_true'] at *
      exact hO.ntrans _ _ _ h2 h1) (fun a b => by
      cases h : ltK ks b a with
      | false => simp
      | true =>
        cases h2 : ltK ks a b with
        | false => simp
        | true =>
          have := hO.trans _ _ _ h h2
          rw [hO.irrefl] at this
          cases this) m
    exact this.imp (fun h => by simpa using h)
  exact sortK_eq (hp.trans (List.mergeSort_perm _ _).symm) s1
theorem othS_swap (base : List Int) (ks : List ByteArray) (p : P3) : othS base ks (swapP p) = othS base ks p := by
  unfold othS
  simp only [swapP]
  congr 2
  rw [keptN_eq, keptN_eq]
  refine sortK_congr ?_
  simp only [List.nil_append]
  refine (List.perm_ext_iff_of_nodup ((once_nodup _).filter _) ((once_nodup _).filter _)).2 fun x => ?_
  simp only [List.mem_filter, once_mem, List.mem_append, decide_eq_true_eq]
  constructor <;> rintro ⟨h, h2⟩ <;> exact ⟨h.symm, h2⟩
theorem once_len (l : List Int) : (onceS l).length ≤ l.length := by
  have := onceL_len l []
  unfold onceS
  simpa using this
theorem othS_len (base : List Int) (ks : List ByteArray) (p : P3) : ((othS base ks p).getD []).length ≤ p.f0.length + (p.f1.length + p.f2.length) := by
  unfold othS
  simp only [Option.getD_some, List.length_append, sortK_len]
  have h1 := keptN_len base (onceS (p.f1 ++ p.f2)) []
  have h2 := once_len (p.f1 ++ p.f2)
  rw [List.length_append] at h2
  simp at h1
  omega
theorem free_two (l0 l1 l2 : List Int) (ks : List ByteArray) (h0 : l0.length ≤ 1000) (h1 : l1.length ≤ 1000) (h2 : l2.length ≤ 1000) :
    ∃ r, Ev (fun K => sequence_Free.f K l0 l1 l2 ks) r ∧ Ev (fun K => sequence_Free.f K l0 l2 l1 ks) r ∧ r.1.length ≤ 200000000 := by
  obtain ⟨m, m1, m2, ml⟩ := merge_two l0 l1 l2 h0 h1 h2
  obtain ⟨x, y, o, ps, res, D, hr, hb, e1, e2⟩ := join_ev (oth := othS l0 ks) (M := 3000) (by decide) (othS_swap l0 ks) l0 l1 l2 h0 h1 h2 ⟨by omega, by omega⟩ (fun p q0 q1 q2 => by
    have := othS_len l0 ks p
    omega)
  cases hm : m.2 with
  | true =>
    refine ⟨(m.1, true), ?_, ?_, by dsimp only; omega⟩
    · unfold sequence_Free.f
      exact m1.bind (Ev.pos hm (Ev.now _))
    · unfold sequence_Free.f
      exact m2.bind (Ev.pos hm (Ev.now _))
  | false =>
    refine ⟨(keptN (onceS res.1) (sortI (keptS l0 l1 l2)) (onceS res.1), false), ?_, ?_, ?_⟩
    · unfold sequence_Free.f
      exact m1.bind (Ev.neg (by rw [hm]; simp) (e1.bind (Ev.pos (by omega) (Ev.now _))))
    · unfold sequence_Free.f
      rw [kept_swap l0 l2 l1]
      exact m2.bind (Ev.neg (by rw [hm]; simp) (e2.bind (Ev.pos (by omega) (Ev.now _))))
    · have q1 := keptN_len (onceS res.1) (sortI (keptS l0 l1 l2)) (onceS res.1)
      have q2 := once_len res.1
      have q3 := keptS_len l0 l1 l2
      rw [sortI_len] at q1
      dsimp only
      omega
theorem short3_ev (l : List ByteArray) (m n : Int) (hm : m ≤ 1000) : ∃ b, Ev (fun k => treemergeref03_Short.f k l m n) b := by
  unfold treemergeref03_Short.f
  by_cases h : (l.length : Int) > m
  · exact ⟨false, Ev.pos h (Ev.now _)⟩
  · have key : ∀ d i, i + d = l.length → ∃ b, Ev (fun k => treemergeref03_Short.l0 k l n (i : Int)) b := by
      intro d
      induction d with
      | zero =>
        intro i hi
        exact ⟨true, Ev.step (fun k => by rw [treemergeref03_Short.l0]) (Ev.neg (by omega) (Ev.now _))⟩
      | succ d ih =>
        intro i hi
        obtain ⟨b, hb⟩ := ih (i + 1) (by omega)
        by_cases c : ((rdOf ByteArray.empty l (i : Int)).size : Int) > n
        · exact ⟨false, Ev.step (fun k => by rw [treemergeref03_Short.l0]) (Ev.pos (by omega) (Ev.pos (by omega) (Ev.pos c (Ev.now _))))⟩
        · refine ⟨b, Ev.step (fun k => by rw [treemergeref03_Short.l0]) (Ev.pos (by omega) (Ev.pos (by omega) (Ev.neg c ?_)))⟩
          rw [wrap_up (i := i) (n := l.length) (by omega) (by omega)]
          exact hb
    obtain ⟨b, hb⟩ := key l.length 0 (by omega)
    exact ⟨b, Ev.neg h hb⟩
theorem SequenceTurns (a b c : List Int) (ks : List ByteArray) : Ev (fun k => treemergelaw32_SequenceTurns.f k a b c ks) true := by
  have no : Ev (fun k => treemergelaw32_SequenceTurns.j0 k a b c ks true) true := Ev.step (fun k => by rw [treemergelaw32_SequenceTurns.j0]) (Ev.pos rfl (awake_ev.bind (Ev.now _)))
  unfold treemergelaw32_SequenceTurns.f
  refine Ev.known (short_of a b c) ?_
  by_cases h : a.length ≤ 30 ∧ b.length ≤ 30 ∧ c.length ≤ 30
  · refine Ev.pos (by simp [h]) ?_
    obtain ⟨s, hs⟩ := short3_ev ks 60 100 (by decide)
    refine hs.bind ?_
    cases s with
    | false => exact no
    | true =>
      obtain ⟨m, m1, m2, ml⟩ := merge_two a b c (by omega) (by omega) (by omega)
      obtain ⟨f, f1, f2, fl⟩ := free_two a b c ks (by omega) (by omega) (by omega)
      refine Ev.step (fun k => by rw [treemergelaw32_SequenceTurns.j0]) (Ev.neg (by simp) (m1.bind (m2.bind (f1.bind (f2.bind (awake_ev.bind (Ev.pos rfl (Ev.pos (beq_self_eq_true _) (Ev.pos (beq_self_eq_true _) ?_)))))))))
      refine Ev.bind (equal_self (by omega) rfl) (Ev.pos rfl (Ev.bind (equal_self (by omega) rfl) (Ev.pos rfl ?_)))
      refine Ev.known (a := keptS a b c) (by rw [sequence_Kept.f, if_pos (by omega)]) (Ev.known (a := keptS a c b) (by rw [sequence_Kept.f, if_pos (by omega)]) ?_)
      refine Ev.bind (equal_self ?_ (kept_swap a b c)) (Ev.now _)
      have := keptS_len a b c
      omega
  · exact Ev.neg (by simpa using h) no
end Go.Proofs.Ytdbgdkbpamekpaa.Pure
