/- Merge and Free are there for all lists, and do not depend on which side is the left one (chapter 32). -/
import Derived.Test.YtdbgdkbpamekpaaPureDiv
namespace Go.Proofs.Ytdbgdkbpamekpaa.Pure
set_option linter.unusedVariables false
open Go.RowKit Go.Proofs.Ytdbgdkbpamekpaa.Q Go.Proofs.YtdbgdkbpamekpaaW.PrintWords Go.Proofs.YtdbgdkbpamekpaaW.PrintLast

theorem merge_two (l0 l1 l2 : List Int) (h0 : l0.length ≤ 1000) (h1 : l1.length ≤ 1000) (h2 : l2.length ≤ 1000) :
    ∃ r, Ev (fun K => sequence_Merge.f K l0 l1 l2) r ∧ Ev (fun K => sequence_Merge.f K l0 l2 l1) r ∧ r.1.length ≤ 100000000 := by
  obtain ⟨x, y, o, ps, res, D, hr, hb, e1, e2⟩ := join_ev (oth := fun _ => none) (M := 1000) (by decide) (fun _ => rfl) l0 l1 l2 h0 h1 h2 ⟨h1, h2⟩ (fun p _ _ _ => by simp)
  obtain ⟨out, ok⟩ := res
  have key : ∀ kp : List Int, ∃ r : List Int × Bool, (if ok = false then some (([] : List Int), false) else if out.length ≤ 2000000000 then (if (onceS out).length = out.length then (if out.length = kp.length then some (out, true) else some ([], false)) else some ([], false)) else none) = some r ∧ r.1.length ≤ 100000000 := by
    intro kp
    dsimp only at hb
    cases ok with
    | false => exact ⟨_, if_pos rfl, by simp⟩
    | true =>
      rw [if_neg (by simp), if_pos (by omega)]
      by_cases c1 : (onceS out).length = out.length
      · rw [if_pos c1]
        by_cases c2 : out.length = kp.length
        · rw [if_pos c2]
          exact ⟨_, rfl, hb⟩
        · rw [if_neg c2]
          exact ⟨_, rfl, by simp⟩
      · rw [if_neg c1]
        exact ⟨_, rfl, by simp⟩
  obtain ⟨r, hr, hl⟩ := key (keptS l0 l1 l2)
  refine ⟨r, ?_, ?_, hl⟩
  · unfold sequence_Merge.f
    exact e1.bind (Ev.known hr (Ev.now _) |> fun h => by simpa [hr] using (Ev.now r))
  · unfold sequence_Merge.f
    rw [kept_swap l0 l2 l1]
    exact e2.bind (by simpa [hr] using (Ev.now r))
theorem sortK_congr {ks : List ByteArray} {l m : List Int} (hp : l.Perm m) : sortK ks l = sortK ks m := by
  have hO := swo_ltK ks
  have s1 : (sortK ks m).Pairwise (fun x y => ltK ks y x = false) := by
    have := List.pairwise_mergeSort (le := fun x y : Int => !ltK ks y x) (fun a b c h1 h2 => by
      simp only [Bool.not_eq_true'] at *
      exact hO.ntrans _ _ _ h2 h1) (fun a b => by
      cases h : ltK ks b a with
      | false => simp
      | true =>
        cases h2 : ltK ks a b with
        | false => simp
        | true =>
          have := hO.trans _ _ _ h h2
          rw [hO.irrefl] at this
          cases this) m
    exact this.imp (fun h => by simpa using h)
  exact sortK_eq (hp.trans (List.mergeSort_perm _ _).symm) s1
theorem othS_swap (base : List Int) (ks : List ByteArray) (p : P3) : othS base ks (swapP p) = othS base ks p := by
  unfold othS
  simp only [swapP]
  congr 2
  rw [keptN_eq, keptN_eq]
  refine sortK_congr ?_
  simp only [List.nil_append]
  refine (List.perm_ext_iff_of_nodup ((once_nodup _).filter _) ((once_nodup _).filter _)).2 fun x => ?_
  simp only [List.mem_filter, once_mem, List.mem_append, decide_eq_true_eq]
  constructor <;> rintro ⟨h, h2⟩ <;> exact ⟨h.symm, h2⟩
theorem once_len (l : List Int) : (onceS l).length ≤ l.length := by
  have := onceL_len l []
  unfold onceS
  simpa using this
theorem othS_len (base : List Int) (ks : List ByteArray) (p : P3) : ((othS base ks p).getD []).length ≤ p.f0.length + (p.f1.length + p.f2.length) := by
  unfold othS
  simp only [Option.getD_some, List.length_append, sortK_len]
  have h1 := keptN_len base (onceS (p.f1 ++ p.f2)) []
  have h2 := once_len (p.f1 ++ p.f2)
  rw [List.length_append] at h2
  simp at h1
  omega
theorem free_two (l0 l1 l2 : List Int) (ks : List ByteArray) (h0 : l0.length ≤ 1000) (h1 : l1.length ≤ 1000) (h2 : l2.length ≤ 1000) :
    ∃ r, Ev (fun K => sequence_Free.f K l0 l1 l2 ks) r ∧ Ev (fun K => sequence_Free.f K l0 l2 l1 ks) r ∧ r.1.length ≤ 200000000 := by
  obtain ⟨m, m1, m2, ml⟩ := merge_two l0 l1 l2 h0 h1 h2
  obtain ⟨x, y, o, ps, res, D, hr, hb, e1, e2⟩ := join_ev (oth := othS l0 ks) (M := 3000) (by decide) (othS_swap l0 ks) l0 l1 l2 h0 h1 h2 ⟨by omega, by omega⟩ (fun p q0 q1 q2 => by
    have := othS_len l0 ks p
    omega)
  cases hm : m.2 with
  | true =>
    refine ⟨(m.1, true), ?_, ?_, by dsimp only; omega⟩
    · unfold sequence_Free.f
      exact m1.bind (Ev.pos hm (Ev.now _))
    · unfold sequence_Free.f
      exact m2.bind (Ev.pos hm (Ev.now _))
  | false =>
    refine ⟨(keptN (onceS res.1) (sortI (keptS l0 l1 l2)) (onceS res.1), false), ?_, ?_, ?_⟩
    · unfold sequence_Free.f
      exact m1.bind (Ev.neg (by rw [hm]; simp) (e1.bind (Ev.pos (by omega) (Ev.now _))))
    · unfold sequence_Free.f
      rw [kept_swap l0 l2 l1]
      exact m2.bind (Ev.neg (by rw [hm]; simp) (e2.bind (Ev.pos (by omega) (Ev.now _))))
    · have q1 := keptN_len (onceS res.1) (sortI (keptS l0 l1 l2)) (onceS res.1)
      have q2 := once_len res.1
      have q3 := keptS_len l0 l1 l2
      rw [sortI_len] at q1
      dsimp only
      omega
end Go.Proofs.Ytdbgdkbpamekpaa.Pure
