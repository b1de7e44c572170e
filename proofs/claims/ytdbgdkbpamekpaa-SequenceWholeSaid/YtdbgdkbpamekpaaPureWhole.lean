/- SequenceWhole in plain Lean (chapter 32). -/
import Derived.Test.YtdbgdkbpamekpaaPureShort
namespace Go.Proofs.Ytdbgdkbpamekpaa.Pure
set_option linter.unusedVariables false
set_option linter.unusedSimpArgs false
open Go.RowKit Go.Proofs.Ytdbgdkbpamekpaa.Q Go.Proofs.YtdbgdkbpamekpaaW.PrintWords Go.Proofs.YtdbgdkbpamekpaaW.PrintLast

theorem cutsA_mem (s : List Int) : ∀ (l : List Int) (done : List (List Int)) (last c : List Int) (x : Int), c ∈ cutsA s l done last → x ∈ c → (∃ d ∈ done, x ∈ d) ∨ x ∈ last ∨ x ∈ l
  | [], done, last, c, x, h, hx => by
    rw [cutsA, List.mem_append, List.mem_singleton] at h
    rcases h with h | rfl
    · exact .inl ⟨c, h, hx⟩
    · exact .inr (.inl hx)
  | y :: l, done, last, c, x, h, hx => by
    rw [cutsA] at h
    by_cases e : y ∈ s
    · rw [if_pos e] at h
      rcases cutsA_mem s l _ _ c x h hx with ⟨d, hd, hx⟩ | hx | hx
      · rw [List.mem_append, List.mem_singleton] at hd
        rcases hd with hd | rfl
        · exact .inl ⟨d, hd, hx⟩
        · exact .inr (.inl hx)
      · simp at hx
      · exact .inr (.inr (List.mem_cons_of_mem _ hx))
    · rw [if_neg e] at h
      rcases cutsA_mem s l _ _ c x h hx with hx | hx | hx
      · exact .inl hx
      · rw [List.mem_append, List.mem_singleton] at hx
        rcases hx with hx | rfl
        · exact .inr (.inl hx)
        · exact .inr (.inr List.mem_cons_self)
      · exact .inr (.inr (List.mem_cons_of_mem _ hx))
theorem cuts_mem {s l : List Int} {i : Nat} {x : Int} (h : x ∈ (cutsS s l).getD i []) : x ∈ l := by
  rcases Nat.lt_or_ge i (cutsS s l).length with g | g
  · rw [List.getD_eq_getElem?_getD, List.getElem?_eq_getElem g] at h
    rcases cutsA_mem s l [] [] _ x (List.getElem_mem g) h with ⟨d, hd, _⟩ | h | h
    · simp at hd
    · simp at h
    · exact h
  · rw [List.getD_eq_getElem?_getD, List.getElem?_eq_none g] at h
    simp at h
theorem joinA_mem {mg : P3 → Option (List Int)} {K : Int → Prop} : ∀ (ps : List P3) (ord out : List Int) (res : List Int × Bool), joinA mg ps ord out = some res → (∀ p ∈ ps, ∀ l, mg p = some l → ∀ x ∈ l, K x) → (∀ x ∈ ord, K x) → (∀ x ∈ out, K x) → ∀ x ∈ res.1, K x
  | [], ord, out, res, h, _, _, ho => by
    simp only [joinA, Option.some.injEq] at h
    rw [← h]
    exact ho
  | p :: ps, ord, out, res, h, hp, hd, ho => by
    rw [joinA] at h
    split at h
    · cases hm : mg p with
      | none =>
        rw [hm] at h
        simp only [Option.some.injEq] at h
        rw [← h]
        simp
      | some l =>
        rw [hm] at h
        refine joinA_mem ps _ _ res h (fun q hq => hp q (List.mem_cons_of_mem _ hq)) (fun x hx => hd x (List.mem_of_mem_tail hx)) (fun x hx => ?_)
        rw [List.mem_append, List.mem_append] at hx
        rcases hx with (hx | hx) | hx
        · exact ho x hx
        · exact hp p List.mem_cons_self l hm x hx
        · exact hd x (List.mem_of_mem_take hx)
    · cases h
/-- What is in a part is kept. -/
theorem part_kept {l0 l1 l2 : List Int} {x y : List S71} {o : List Int} {ps : List P3} (D : Division (divL l0 l1 l2 l0) (divL l0 l1 l2 l1) (divL l0 l1 l2 l2) x y o ps) :
    (∀ p ∈ ps, ∀ v, v ∈ p.f0 ∨ v ∈ p.f1 ∨ v ∈ p.f2 → v ∈ keptS l0 l1 l2) ∧ ∀ v ∈ o, v ∈ keptS l0 l1 l2 := by
  have key : ∀ l v, v ∈ divL l0 l1 l2 l → v ∈ keptS l0 l1 l2 := fun l v h => by
    rw [divL_eq] at h
    simpa using (List.mem_filter.1 h).2
  refine ⟨fun p hp v hv => ?_, fun v hv => key _ v (D.ob.subset hv)⟩
  rw [D.hps] at hp
  obtain ⟨i, _, rfl⟩ := List.mem_map.1 hp
  rcases hv with hv | hv | hv
  · exact key _ v (cuts_mem hv)
  · exact key _ v (cuts_mem hv)
  · exact key _ v (cuts_mem hv)
theorem mergedS_mem {p : P3} {l : List Int} (h : mergedS p = some l) : ∀ v ∈ l, v ∈ p.f1 ∨ v ∈ p.f2 := by
  unfold mergedS at h
  split at h
  · cases h; exact fun v hv => .inr hv
  · split at h
    · cases h; exact fun v hv => .inl hv
    · cases h
theorem othS_mem {base : List Int} {ks : List ByteArray} {p : P3} {l : List Int} (h : othS base ks p = some l) : ∀ v ∈ l, v ∈ p.f0 ∨ v ∈ p.f1 ∨ v ∈ p.f2 := by
  unfold othS at h
  cases h
  intro v hv
  rw [List.mem_append] at hv
  rcases hv with hv | hv
  · exact .inl hv
  · have hq := (List.mergeSort_perm _ _).mem_iff.1 hv
    rw [keptN_eq] at hq
    simp only [List.nil_append, List.mem_filter, once_mem, List.mem_append] at hq
    exact .inr hq.1
theorem onceL_sub : ∀ (l out : List Int), ∃ t, onceL l out = out ++ t ∧ t.Sublist l
  | [], out => ⟨[], by simp [onceL], List.Sublist.refl _⟩
  | x :: l, out => by
    rw [onceL]
    by_cases c : x ∈ out
    · rw [if_pos c]
      obtain ⟨t, e, h⟩ := onceL_sub l out
      exact ⟨t, e, h.cons _⟩
    · rw [if_neg c]
      obtain ⟨t, e, h⟩ := onceL_sub l (out ++ [x])
      exact ⟨x :: t, by rw [e]; simp, h.cons_cons _⟩
theorem nodup_of_once {l : List Int} (h : (onceS l).length = l.length) : l.Nodup := by
  obtain ⟨t, e, g⟩ := onceL_sub l []
  have e2 : onceS l = t := e
  rw [e2] at h
  rw [← g.eq_of_length h, ← e2]
  exact once_nodup l
theorem mem_of_sub {l m : List Int} (hl : l.Nodup) (hm : m.Nodup) (hs : ∀ x ∈ l, x ∈ m) (e : l.length = m.length) (x : Int) : x ∈ l ↔ x ∈ m := by
  refine ⟨hs x, fun hx => ?_⟩
  have h1 : (m.filter fun v => decide (v ∈ l)).Perm l := (List.perm_ext_iff_of_nodup (hm.filter _) hl).2 (fun v => by
    rw [List.mem_filter, decide_eq_true_eq]
    exact ⟨fun h => h.2, fun h => ⟨hs v h, h⟩⟩)
  have h2 : (m.filter fun v => decide (v ∈ l)) = m := List.filter_sublist.eq_of_length (h1.length_eq.trans e)
  rw [← h2] at hx
  simpa using (List.mem_filter.1 hx).2
/-- The elements that are kept, each once. -/
def Exact (l b p q : List Int) : Prop := l.Nodup ∧ ∀ x, x ∈ l ↔ x ∈ keptS b p q
theorem merge_whole (l0 l1 l2 : List Int) (h0 : l0.length ≤ 1000) (h1 : l1.length ≤ 1000) (h2 : l2.length ≤ 1000) :
    ∃ r, Ev (fun K => sequence_Merge.f K l0 l1 l2) r ∧ r.1.length ≤ 100000000 ∧ (r.2 = true → Exact r.1 l0 l1 l2) ∧ (r.2 = false → r.1 = []) := by
  obtain ⟨x, y, o, ps, res, D, hr, hb, e1, e2⟩ := join_ev (oth := fun _ => none) (M := 1000) (by decide) (fun _ => rfl) l0 l1 l2 h0 h1 h2 ⟨h1, h2⟩ (fun p _ _ _ => by simp)
  obtain ⟨k1, k2⟩ := part_kept D
  have hm := joinA_mem (K := fun v => v ∈ keptS l0 l1 l2) ps o [] res hr (fun p hp l hl v hv => by
    unfold mgS at hl
    cases hq : mergedS p with
    | none => rw [hq] at hl; cases hl
    | some m =>
      rw [hq] at hl
      cases hl
      exact k1 p hp v (.inr (mergedS_mem hq v hv))) k2 (by simp)
  obtain ⟨out, ok⟩ := res
  dsimp only at hb hm
  have key : ∃ r : List Int × Bool, (if ok = false then some (([] : List Int), false) else if out.length ≤ 2000000000 then (if (onceS out).length = out.length then (if out.length = (keptS l0 l1 l2).length then some (out, true) else some ([], false)) else some ([], false)) else none) = some r ∧ r.1.length ≤ 100000000 ∧ (r.2 = true → Exact r.1 l0 l1 l2) ∧ (r.2 = false → r.1 = []) := by
    cases ok with
    | false => exact ⟨_, if_pos rfl, by simp, by simp, by simp⟩
    | true =>
      rw [if_neg (by simp), if_pos (by omega)]
      by_cases c1 : (onceS out).length = out.length
      · rw [if_pos c1]
        by_cases c2 : out.length = (keptS l0 l1 l2).length
        · rw [if_pos c2]
          refine ⟨_, rfl, hb, fun _ => ?_, by simp⟩
          have hn := nodup_of_once c1
          exact ⟨hn, mem_of_sub hn (kept_nodup _ _ _) hm c2⟩
        · rw [if_neg c2]
          exact ⟨_, rfl, by simp, by simp, by simp⟩
      · rw [if_neg c1]
        exact ⟨_, rfl, by simp, by simp, by simp⟩
  obtain ⟨r, hr, hl⟩ := key
  refine ⟨r, ?_, hl⟩
  unfold sequence_Merge.f
  exact e1.bind (by simpa [hr] using (Ev.now r))
theorem free_whole (l0 l1 l2 : List Int) (ks : List ByteArray) (h0 : l0.length ≤ 1000) (h1 : l1.length ≤ 1000) (h2 : l2.length ≤ 1000) :
    ∃ m r, Ev (fun K => sequence_Merge.f K l0 l1 l2) m ∧ Ev (fun K => sequence_Free.f K l0 l1 l2 ks) r ∧ m.1.length ≤ 100000000 ∧ r.1.length ≤ 200000000 ∧ Exact r.1 l0 l1 l2 ∧ (m.2 = true → r = m) ∧ (m.2 = false → m.1 = [] ∧ r.2 = false) := by
  obtain ⟨m, m1, ml, mt, mf⟩ := merge_whole l0 l1 l2 h0 h1 h2
  obtain ⟨x, y, o, ps, res, D, hr, hb, e1, e2⟩ := join_ev (oth := othS l0 ks) (M := 3000) (by decide) (othS_swap l0 ks) l0 l1 l2 h0 h1 h2 ⟨by omega, by omega⟩ (fun p q0 q1 q2 => by
    have := othS_len l0 ks p
    omega)
  cases hm : m.2 with
  | true =>
    refine ⟨m, m, m1, ?_, ml, by omega, mt hm, fun _ => rfl, fun h => absurd (hm.symm.trans h) (by simp)⟩
    unfold sequence_Free.f
    refine m1.bind (Ev.pos hm ?_)
    rw [show m = (m.1, true) by rw [← hm]]
    exact Ev.now _
  | false =>
    obtain ⟨k1, k2⟩ := part_kept D
    have hs := joinA_mem (K := fun v => v ∈ keptS l0 l1 l2) ps o [] res hr (fun p hp l hl v hv => by
      unfold mgS at hl
      cases hq : mergedS p with
      | none => rw [hq] at hl; exact k1 p hp v (othS_mem hl v hv)
      | some m =>
        rw [hq] at hl
        cases hl
        exact k1 p hp v (.inr (mergedS_mem hq v hv))) k2 (by simp)
    refine ⟨m, (keptN (onceS res.1) (sortI (keptS l0 l1 l2)) (onceS res.1), false), m1, ?_, ml, ?_, ?_, fun h => absurd (hm.symm.trans h) (by simp), fun _ => ⟨mf hm, rfl⟩⟩
    · unfold sequence_Free.f
      exact m1.bind (Ev.neg (by rw [hm]; simp) (e1.bind (Ev.pos (by omega) (Ev.now _))))
    · have q1 := keptN_len (onceS res.1) (sortI (keptS l0 l1 l2)) (onceS res.1)
      have q2 := once_len res.1
      have q3 := keptS_len l0 l1 l2
      rw [sortI_len] at q1
      dsimp only
      omega
    · have sp : (sortI (keptS l0 l1 l2)).Perm (keptS l0 l1 l2) := List.mergeSort_perm _ _
      refine ⟨?_, fun v => ?_⟩
      · rw [keptN_eq, List.nodup_append]
        refine ⟨once_nodup _, (sp.nodup_iff.2 (kept_nodup _ _ _)).filter _, ?_⟩
        intro a ha b hb2
        rintro rfl
        have := (List.mem_filter.1 hb2).2
        simp [ha] at this
      · rw [keptN_eq, List.mem_append, List.mem_filter, sp.mem_iff]
        constructor
        · rintro (h | h)
          · exact hs v ((once_mem _ _).1 h)
          · exact h.1
        · intro h
          by_cases c : v ∈ onceS res.1
          · exact .inl c
          · exact .inr ⟨h, by simpa using c⟩
theorem exactly_ev {l b p q : List Int} (hE : Exact l b p q) (hl : l.length ≤ 1000000000) (hb : b.length ≤ 1000) (hp : p.length ≤ 1000) (hq : q.length ≤ 1000) : Ev (fun k => treemergelaw32_exactly.f k l b p q) true := by
  have hx : ∀ x, x ∈ l ↔ _ := fun x => (hE.2 x).trans (kept_mem b p q x)
  have k3 : ∀ d i, i + d = q.length → Ev (fun k => treemergelaw32_exactly.l3 k l b q (i : Int)) true := by
    intro d
    induction d with
    | zero => intro i hi; exact Ev.step (fun k => by rw [treemergelaw32_exactly.l3]) (Ev.neg (by omega) (Ev.now _))
    | succ d ih =>
      intro i hi
      have h1 : i < q.length := by omega
      have ih' := ih (i + 1) (by omega)
      refine Ev.step (fun k => by rw [treemergelaw32_exactly.l3]) (Ev.pos (by omega) (Ev.pos (by omega) ?_))
      rw [rd_at h1, wrap_up h1 (by omega)]
      refine (has_ev b q[i] (by omega)).bind ?_
      by_cases c : q[i] ∈ b
      · exact Ev.pos (by simp [c]) ih'
      · refine Ev.neg (by simp [c]) ((has_ev l q[i] (by omega)).bind (Ev.pos ?_ ih'))
        rw [decide_eq_true_eq, hx]
        exact .inr ⟨c, .inr (List.getElem_mem h1)⟩
  have k2 : ∀ d i, i + d = p.length → Ev (fun k => treemergelaw32_exactly.l2 k l b p q (i : Int)) true := by
    intro d
    induction d with
    | zero => intro i hi; exact Ev.step (fun k => by rw [treemergelaw32_exactly.l2]) (Ev.neg (by omega) (show Ev (fun k => treemergelaw32_exactly.l3 k l b q 0) true from k3 q.length 0 (by omega)))
    | succ d ih =>
      intro i hi
      have h1 : i < p.length := by omega
      have ih' := ih (i + 1) (by omega)
      refine Ev.step (fun k => by rw [treemergelaw32_exactly.l2]) (Ev.pos (by omega) (Ev.pos (by omega) ?_))
      rw [rd_at h1, wrap_up h1 (by omega)]
      refine (has_ev b p[i] (by omega)).bind ?_
      by_cases c : p[i] ∈ b
      · refine Ev.pos (by simp [c]) ((has_ev q p[i] (by omega)).bind ?_)
        by_cases c2 : p[i] ∈ q
        · refine Ev.pos (by simp [c2]) ((has_ev l p[i] (by omega)).bind (Ev.pos ?_ ih'))
          rw [decide_eq_true_eq, hx]
          exact .inl ⟨c, List.getElem_mem h1, c2⟩
        · exact Ev.neg (by simp [c2]) ih'
      · refine Ev.neg (by simp [c]) ((has_ev l p[i] (by omega)).bind (Ev.pos ?_ ih'))
        rw [decide_eq_true_eq, hx]
        exact .inr ⟨c, .inl (List.getElem_mem h1)⟩
  have k0 : ∀ d i, i + d = l.length → Ev (fun k => treemergelaw32_exactly.l0 k l b p q (i : Int)) true := by
    intro d
    induction d with
    | zero => intro i hi; exact Ev.step (fun k => by rw [treemergelaw32_exactly.l0]) (Ev.neg (by omega) (show Ev (fun k => treemergelaw32_exactly.l2 k l b p q 0) true from k2 p.length 0 (by omega)))
    | succ d ih =>
      intro i hi
      have h1 : i < l.length := by omega
      have ih' := ih (i + 1) (by omega)
      refine Ev.step (fun k => by rw [treemergelaw32_exactly.l0]) (Ev.pos (by omega) ?_)
      have k1 : ∀ c j, j + c = i → Ev (fun k => treemergelaw32_exactly.l1 k l b p q (i : Int) (j : Int)) true := by
        intro c
        induction c with
        | zero =>
          intro j hj
          refine Ev.step (fun k => by rw [treemergelaw32_exactly.l1]) (Ev.neg (by omega) (Ev.pos (by omega) (Ev.pos (by omega) ?_)))
          rw [rd_at h1, wrap_up h1 (by omega)]
          refine (has_ev b l[i] (by omega)).bind ?_
          rcases (hx l[i]).1 (List.getElem_mem h1) with ⟨a1, a2, a3⟩ | ⟨a1, a2⟩
          · exact Ev.pos (by simp [a1]) ((has_ev p l[i] (by omega)).bind (Ev.pos (by simp [a2]) ((has_ev q l[i] (by omega)).bind (Ev.pos (by simp [a3]) ((has_ev p l[i] (by omega)).bind (Ev.pos (by simp [a2]) ih'))))))
          · refine Ev.neg (by simp [a1]) ((has_ev p l[i] (by omega)).bind ?_)
            by_cases a3 : l[i] ∈ p
            · exact Ev.pos (by simp [a3]) ih'
            · exact Ev.neg (by simp [a3]) ((has_ev q l[i] (by omega)).bind (Ev.pos (by simp [a2.resolve_left a3]) ih'))
        | succ c ic =>
          intro j hj
          have h2 : j < l.length := by omega
          refine Ev.step (fun k => by rw [treemergelaw32_exactly.l1]) (Ev.pos (by omega) (Ev.pos (by omega) (Ev.pos (by omega) (Ev.pos (by omega) (Ev.pos (by omega) ?_)))))
          rw [rd_at h1, rd_at h2, wrap_up h2 (by omega)]
          exact Ev.neg ((List.pairwise_iff_getElem.1 hE.1) j i h2 h1 (by omega)) (ic (j + 1) (by omega))
      exact k1 i 0 (by omega)
  exact k0 l.length 0 (by omega)
theorem SequenceWhole (a b c : List Int) (ks : List ByteArray) : Ev (fun k => treemergelaw32_SequenceWhole.f k a b c ks) true := by
  have no : Ev (fun k => treemergelaw32_SequenceWhole.j0 k a b c ks true) true := Ev.step (fun k => by rw [treemergelaw32_SequenceWhole.j0]) (Ev.pos rfl (awake_ev.bind (Ev.now _)))
  unfold treemergelaw32_SequenceWhole.f
  refine Ev.known (short_of a b c) ?_
  by_cases h : a.length ≤ 30 ∧ b.length ≤ 30 ∧ c.length ≤ 30
  · refine Ev.pos (by simp [h]) ?_
    obtain ⟨s, hs⟩ := short3_ev ks 60 100 (by decide)
    refine hs.bind ?_
    cases s with
    | false => exact no
    | true =>
      obtain ⟨m, f, m1, f1, ml, fl, fe, ft, ff⟩ := free_whole a b c ks (by omega) (by omega) (by omega)
      have fin : Ev (fun k => treemergelaw32_SequenceWhole.j1 k a b c f.1 false) true :=
        Ev.step (fun k => by rw [treemergelaw32_SequenceWhole.j1]) (Ev.neg (by simp) (awake_ev.bind (Ev.pos rfl ((exactly_ev fe (by omega) (by omega) (by omega) (by omega)).bind (Ev.now _)))))
      refine Ev.step (fun k => by rw [treemergelaw32_SequenceWhole.j0]) (Ev.neg (by simp) (m1.bind (f1.bind ?_)))
      cases hm : m.2 with
      | true =>
        have e := ft hm
        subst e
        refine Ev.neg (by simp [hm]) (Ev.pos rfl ((exactly_ev fe (by omega) (by omega) (by omega) (by omega)).bind (Ev.pos rfl ?_)))
        exact Ev.bind (equal_self (by omega) rfl) (Ev.pos rfl fin)
      | false =>
        obtain ⟨g1, g2⟩ := ff hm
        refine Ev.neg (by simp [hm, g2]) (Ev.neg (by simp [hm]) ?_)
        rw [g1, show (decide (((([] : List Int).length : Nat) : Int) > 0)) = false from rfl]
        exact fin
  · exact Ev.neg (by simpa using h) no
end Go.Proofs.Ytdbgdkbpamekpaa.Pure
