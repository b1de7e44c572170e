/- SequenceInserts in plain Lean (chapter 32). -/
import Derived.Test.YtdbgdkbpamekpaaPureInter
namespace Go.Proofs.Ytdbgdkbpamekpaa.Pure
set_option linter.unusedVariables false
set_option linter.unusedSimpArgs false
open Go.RowKit Go.Proofs.Ytdbgdkbpamekpaa.Q Go.Proofs.YtdbgdkbpamekpaaW.PrintWords Go.Proofs.YtdbgdkbpamekpaaW.PrintLast

theorem onceL_snoc (z : Int) : ∀ (l out : List Int), z ∉ l → z ∉ out → onceL (l ++ [z]) out = onceL l out ++ [z]
  | [], out, _, h => by
    show onceL [z] out = onceL [] out ++ [z]
    simp [onceL, h]
  | x :: l, out, h1, h2 => by
    rw [List.mem_cons] at h1
    show onceL (x :: (l ++ [z])) out = _
    rw [onceL, onceL]
    refine onceL_snoc z l _ (fun h => h1 (.inr h)) ?_
    split
    · exact h2
    · simp only [List.mem_append, List.mem_singleton]
      rintro (h | h)
      · exact h2 h
      · exact h1 (.inl h)
theorem onceL_front (z : Int) : ∀ (l out : List Int), z ∉ l → onceL l (z :: out) = z :: onceL l out
  | [], out, _ => by rw [onceL, onceL]
  | x :: l, out, h => by
    rw [List.mem_cons] at h
    rw [onceL, onceL, ← onceL_front z l _ (fun g => h (.inr g))]
    congr 1
    have hx : x ≠ z := fun e => h (.inl e.symm)
    by_cases c : x ∈ out
    · rw [if_pos c, if_pos (List.mem_cons_of_mem _ c)]
    · rw [if_neg c, if_neg (by simp [hx, c]), List.cons_append]
theorem once_snoc {z : Int} {l : List Int} (h : z ∉ l) : onceS (l ++ [z]) = onceS l ++ [z] := onceL_snoc z l [] h (by simp)
theorem once_front {z : Int} {l : List Int} (h : z ∉ l) : onceS (z :: l) = z :: onceS l := by
  show onceL (z :: l) [] = _
  rw [onceL, if_neg (by simp)]
  exact onceL_front z l [] h
theorem cuts_all (s : List Int) : ∀ (l : List Int) (last : List Int), (∀ x ∈ l, x ∈ s) → cutsA s l [] last = last :: List.replicate l.length []
  | [], last, _ => by simp [cutsA]
  | x :: l, last, h => by
    rw [cutsA, if_pos (h x List.mem_cons_self), cutsA_done, cuts_all s l [] (fun y hy => h y (List.mem_cons_of_mem _ hy))]
    simp [List.replicate_succ]
theorem cuts_end (s : List Int) (z : Int) (hz : z ∉ s) : ∀ (l : List Int), (∀ x ∈ l, x ∈ s) → cutsA s (l ++ [z]) [] [] = List.replicate l.length [] ++ [[z]]
  | [], _ => by simp [cutsA, hz]
  | x :: l, h => by
    rw [List.cons_append, cutsA, if_pos (h x List.mem_cons_self), cutsA_done, cuts_end s z hz l (fun y hy => h y (List.mem_cons_of_mem _ hy))]
    simp [List.replicate_succ]
theorem olds_all {a b : List Int} {r : List S71} (h : Pairs a b r) (hl : a.length ≤ r.length) : oldsOf a r = a := by
  have := (olds_sub h.sub).1
  rw [List.drop_zero] at this
  exact this.eq_of_length_le (by rw [oldsOf, List.length_map]; exact hl)
theorem pairs_end {a : List Int} {z : Int} {r : List S71} (h : Pairs a (a ++ [z]) r) : oldsOf a r = a := by
  refine olds_all h ?_
  obtain ⟨c, h1, h2, h3, h4, h5⟩ := h.pre
  rcases Nat.lt_or_ge c a.length with g | g
  · exact absurd (by rw [List.getElem?_append_left g]) (h5 g (by simp; omega))
  · omega
theorem pairs_front {a : List Int} {z : Int} {r : List S71} (hz : z ∉ a) (h : Pairs a (z :: a) r) : oldsOf a r = a := by
  refine olds_all h ?_
  obtain ⟨c, h1, h2, h3, h4, h5⟩ := h.pre
  cases c with
  | zero =>
    have g1 := Lc_self a
    have g2 := Lc_grow a a z
    rw [h1]
    simp only [List.drop_zero]
    omega
  | succ c =>
    have := h4 0 (by omega)
    exact absurd (List.mem_of_getElem? (this.trans rfl)) hz
/-- Every part is that of the one list which holds both insertions. -/
theorem ins_parts (x : Int) (B : List Int) (first last : Int) (hf : first ∉ x :: B) (hl : last ∉ x :: B) (oth : P3 → Option (List Int)) :
    (parts3 (cutsS (x :: B) (x :: B)) (cutsS (x :: B) ((x :: B) ++ [last])) (cutsS (x :: B) (first :: (x :: B)))).map (mgS oth) = (cutsS (x :: B) (first :: (x :: B) ++ [last])).map some := by
  have c0 : cutsS (x :: B) (x :: B) = [] :: List.replicate (B.length + 1) [] := cuts_all _ _ _ (fun _ h => h)
  have c1 : cutsS (x :: B) ((x :: B) ++ [last]) = List.replicate (B.length + 1) [] ++ [[last]] := cuts_end _ _ hl _ (fun _ h => h)
  have c2 : cutsS (x :: B) (first :: (x :: B)) = [first] :: List.replicate (B.length + 1) [] := by
    rw [cutsS, cutsA, if_neg hf]
    exact cuts_all _ _ _ (fun _ h => h)
  have c3 : cutsS (x :: B) (first :: (x :: B) ++ [last]) = [first] :: (List.replicate B.length [] ++ [[last]]) := by
    show cutsS (x :: B) (first :: x :: (B ++ [last])) = _
    rw [cutsS, cutsA, if_neg hf, cutsA, if_pos List.mem_cons_self, cutsA_done, cuts_end _ _ hl _ (fun y h => List.mem_cons_of_mem _ h)]
    rfl
  rw [c0, c1, c2, c3, parts3]
  apply List.ext_getElem
  · simp
  · intro i h1 h2
    simp only [List.length_map, List.length_range, List.length_cons, List.length_replicate] at h1
    simp only [List.getElem_map, List.getElem_range, List.getD_eq_getElem?_getD]
    rcases Nat.eq_zero_or_pos i with rfl | hp
    · simp [mgS, mergedS, List.getElem?_append]
    · obtain ⟨j, rfl⟩ : ∃ j, i = j + 1 := ⟨i - 1, by omega⟩
      simp only [List.getElem?_cons_succ, List.getElem_cons_succ]
      rcases Nat.lt_or_ge j B.length with g | g
      · simp [mgS, mergedS, List.getElem?_append, List.getElem_append, List.getElem?_replicate, g, show j < B.length + 1 by omega]
      · have : j = B.length := by omega
        subst this
        simp [mgS, mergedS, List.getElem?_append, List.getElem_append, List.getElem?_replicate]
theorem merge_ins (l : List Int) (first last : Int) (h0 : l.length ≤ 29) (hn : l ≠ []) (hne : first ≠ last) (hf : first ∉ l) (hl : last ∉ l) :
    Ev (fun K => sequence_Merge.f K l (l ++ [last]) (first :: l)) (onceL l [first] ++ [last], true) := by
  have g1 : (l ++ [last]).length ≤ 1000 := by simp; omega
  have g2 : (first :: l).length ≤ 1000 := by simp; omega
  obtain ⟨x, y, o, ps, res, D, hr, hb, e1, e2⟩ := join_ev (oth := fun _ => none) (M := 1000) (by decide) (fun _ => rfl) l (l ++ [last]) (first :: l) (by omega) g1 g2 ⟨g1, g2⟩ (fun p _ _ _ => by simp)
  have hk : ∀ v, v ∈ keptS l (l ++ [last]) (first :: l) ↔ v ∈ first :: l ∨ v = last := by
    intro v
    rw [kept_mem]
    simp only [List.mem_append, List.mem_cons, List.not_mem_nil, or_false]
    constructor
    · rintro (⟨a, b, c⟩ | ⟨a, b | b⟩)
      · exact .inl c
      · rcases b with b | b
        · exact absurd b a
        · exact .inr b
      · exact .inl b
    · rintro ((rfl | b) | rfl)
      · exact .inr ⟨hf, .inr (.inl rfl)⟩
      · exact .inl ⟨b, .inl b, .inr b⟩
      · exact .inr ⟨hl, .inl (.inr rfl)⟩
  have full : ∀ m : List Int, (∀ v ∈ m, v ∈ first :: l ∨ v = last) → divL l (l ++ [last]) (first :: l) m = onceS m := by
    intro m hm
    rw [divL_eq, List.filter_eq_self]
    intro a ha
    rw [decide_eq_true_eq, hk]
    exact hm a ((once_mem m a).1 ha)
  have q0 := full l (fun v h => .inl (List.mem_cons_of_mem _ h))
  have q1 := full (l ++ [last]) (fun v h => by
    rcases List.mem_append.1 h with h | h
    · exact .inl (List.mem_cons_of_mem _ h)
    · exact .inr (by simpa using h))
  have q2 := full (first :: l) (fun v h => .inl h)
  rw [once_snoc hl] at q1
  rw [once_front hf] at q2
  rw [q0, q1, q2] at D
  have bn := once_nodup l
  have bf : first ∉ onceS l := by rw [once_mem]; exact hf
  have bl : last ∉ onceS l := by rw [once_mem]; exact hl
  have eo : o = onceS l := by
    rw [D.ho, divOrder, pairs_end D.px, pairs_front bf D.py, List.filter_eq_self]
    intro a ha
    simpa using ha
  subst eo
  have bne : onceS l ≠ [] := by
    obtain ⟨v, hv⟩ := List.exists_mem_of_ne_nil l hn
    intro h
    have := (once_mem l v).2 hv
    rw [h] at this
    simp at this
  have hmap : ps.map (mgS fun _ => none) = (cutsS (onceS l) (first :: onceS l ++ [last])).map some := by
    rw [D.hps]
    cases hB : onceS l with
    | nil => exact absurd hB bne
    | cons v B =>
      rw [hB] at bf bl
      exact ins_parts v B first last bf bl _
  have all_nodup : (first :: onceS l ++ [last]).Nodup := by
    rw [List.nodup_append]
    refine ⟨List.nodup_cons.2 ⟨bf, bn⟩, by simp, ?_⟩
    intro a ha b hb
    rw [List.mem_singleton] at hb
    subst hb
    rintro rfl
    rcases List.mem_cons.1 ha with h | h
    · exact hne h.symm
    · exact bl h
  have hres := join_inter ps _ (onceS l) [] res hmap hr
  have hsub : (onceS l).Sublist (first :: onceS l ++ [last]) := ((List.Sublist.refl _).cons _).trans (List.sublist_append_left _ _)
  have hi := inter_cuts (onceS l) (first :: onceS l ++ [last]) [] (onceS l) hsub all_nodup (fun _ _ => Iff.rfl)
  unfold cutsS at hres
  rw [hi, List.nil_append, List.nil_append] at hres
  subst hres
  have hlen : (first :: onceS l ++ [last]).length = (keptS l (l ++ [last]) (first :: l)).length :=
    ((List.perm_ext_iff_of_nodup all_nodup (kept_nodup _ _ _)).2 (fun a => by
      rw [hk]
      simp only [List.mem_append, List.mem_cons, once_mem, List.not_mem_nil, or_false])).length_eq
  have hol := once_len l
  have hsm : (first :: onceS l ++ [last]).length ≤ 31 := by simp; omega
  have hw : onceL l [first] = first :: onceS l := onceL_front first l [] hf
  rw [hw]
  unfold sequence_Merge.f
  refine e1.bind ?_
  dsimp only
  rw [if_neg (by simp), if_pos (by omega), if_pos (by rw [once_of_nodup all_nodup]), if_pos hlen]
  exact Ev.now _
theorem SequenceInserts (base : List Int) (first last : Int) : Ev (fun k => treemergelaw32_SequenceInserts.f k base first last) true := by
  have no : Ev (fun k => treemergelaw32_SequenceInserts.j0 k base first last true) true :=
    Ev.step (fun k => by rw [treemergelaw32_SequenceInserts.j0]) (Ev.pos rfl (awake_ev.bind (Ev.now _)))
  unfold treemergelaw32_SequenceInserts.f
  by_cases c1 : (base.length : Int) = 0
  · exact Ev.pos c1 no
  refine Ev.neg c1 ?_
  by_cases c2 : (base.length : Int) > 29
  · exact Ev.pos c2 no
  refine Ev.neg c2 ?_
  by_cases c3 : first = last
  · exact Ev.pos c3 no
  refine Ev.neg c3 ((has_ev base first (by omega)).bind ?_)
  by_cases c4 : first ∈ base
  · exact Ev.pos (by simp [c4]) no
  refine Ev.neg (by simp [c4]) ((has_ev base last (by omega)).bind ?_)
  by_cases c5 : last ∈ base
  · rw [decide_eq_true c5]
    exact no
  rw [decide_eq_false c5]
  refine Ev.step (fun k => by rw [treemergelaw32_SequenceInserts.j0]) (Ev.neg (by simp) ?_)
  have hm := merge_ins base first last (by omega) (fun h => c1 (by rw [h]; rfl)) c3 c4 c5
  have key : ∀ d i (want : List Int), i + d = base.length → want.length ≤ i + 1 → onceL (base.drop i) want = onceL base [first] → Ev (fun k => treemergelaw32_SequenceInserts.l0 k base last (base.take i) (first :: base.take i) want (i : Int)) true := by
    intro d
    induction d with
    | zero =>
      intro i want hi ho hw
      have et : base.take i = base := List.take_of_length_le (by omega)
      rw [List.drop_of_length_le (by omega), onceL] at hw
      rw [et]
      refine Ev.step (fun k => by rw [treemergelaw32_SequenceInserts.l0]) (Ev.neg (by omega) (Ev.pos (by omega) (Ev.pos (by omega) ?_)))
      rw [hw]
      have hz : (onceL base [first] ++ [last], true).1.length ≤ 140737488351232 := by
        show (onceL base [first] ++ [last]).length ≤ _
        rw [← hw]
        simp
        omega
      exact hm.bind (awake_ev.bind (Ev.pos rfl (Ev.pos rfl (Ev.bind (equal_self hz rfl) (Ev.now _)))))
    | succ d ih =>
      intro i want hi ho hw
      have h1 : i < base.length := by omega
      have ht : base.take (i + 1) = base.take i ++ [base[i]] := List.take_succ_eq_append_getElem h1
      have h2 : (base.take i).length = i := by rw [List.length_take]; omega
      refine Ev.step (fun k => by rw [treemergelaw32_SequenceInserts.l0]) (Ev.pos (by omega) (Ev.pos (by omega) (Ev.pos (by omega) ?_)))
      refine Ev.bind (Ev.now _) (Ev.pos (by rw [List.length_cons]; omega) ?_)
      refine Ev.bind (Ev.now _) ?_
      rw [List.drop_eq_getElem_cons h1, onceL] at hw
      rw [rd_at h1, wrap_up h1 (by omega)]
      have ih' := ih (i + 1) (if base[i] ∈ want then want else want ++ [base[i]]) (by omega) (by
        split
        · omega
        · rw [List.length_append, List.length_singleton]
          omega) hw
      rw [ht] at ih'
      refine (has_ev want base[i] (by omega)).bind ?_
      by_cases c : base[i] ∈ want
      · rw [if_pos c] at ih'
        exact Ev.pos (by simp [c]) ih'
      · rw [if_neg c] at ih'
        exact Ev.neg (by simp [c]) (Ev.pos (by omega) ih')
  exact key base.length 0 [first] (by omega) (by simp) rfl
end Go.Proofs.Ytdbgdkbpamekpaa.Pure
