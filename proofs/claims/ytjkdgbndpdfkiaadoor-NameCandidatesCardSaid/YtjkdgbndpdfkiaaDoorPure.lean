/- The laws of names in plain Lean. -/
import Derived.Test.YtjkdgbndpdfkiaaDoorPureFresh
namespace Go.Proofs.YtjkdgbndpdfkiaaDoor.Pure
open Go.RowKit Go.Proofs.YtjkdgbndpdfkiaaDoor.Q Go.Proofs.YtjkdgbndpdfkiaaDoorW.PrintWords Go.Proofs.YtjkdgbndpdfkiaaDoorW.PrintLast

set_option linter.unusedVariables false
theorem NameValids (s : ByteArray) (hs : s.size ≤ 140737488351232) : Ev (fun k => treemergelaw03_NameValids.f k s) true := by
  unfold treemergelaw03_NameValids.f
  by_cases h : (s.size : Int) > 2000
  · exact Ev.pos h (awake_ev.bind (Ev.now _))
  · refine Ev.neg h (awake_ev.bind (Ev.pos rfl (Ev.known (valid_of s) ((rvalid_ev s hs).bind (Ev.pos (by simp) (Ev.known (kw_of s) (Ev.known (rkw_of s) ?_)))))))
    exact Ev.cast (by simp) (Ev.now _)
theorem NamePaths (s : ByteArray) (hs : s.size ≤ 140737488351232) : Ev (fun k => treemergelaw03_NamePaths.f k s) true := by
  unfold treemergelaw03_NamePaths.f
  by_cases h : (s.size : Int) > 2000
  · exact Ev.pos h (awake_ev.bind (Ev.now _))
  · refine Ev.neg h (awake_ev.bind (Ev.pos rfl ((path_ev s hs).bind ((rpath_ev s hs).bind ?_))))
    exact Ev.cast (by simp) (Ev.now _)
theorem shortB_len {l : List ByteArray} {c n : Nat} (h : shortB l c n = true) : l.length ≤ c := by
  unfold shortB at h
  rw [Bool.and_eq_true, decide_eq_true_eq] at h
  exact h.1
theorem fresh_bad (base : ByteArray) (taken : List ByteArray) (hb : base.size ≤ 140737488351232) (hv : vS base = false) : name_Fresh.f base taken = some (⟨#[]⟩, 4) ∧ Ev (fun k => treemergeref03_Fresh.f k base taken) (⟨#[]⟩, 4) := by
  unfold name_Fresh.f treemergeref03_Fresh.f
  rw [valid_of, hv]
  refine ⟨rfl, (rvalid_ev base hb).bind (Ev.neg (by rw [hv]; decide) (Ev.now _))⟩
theorem NameCandidates (s : ByteArray) (l : List ByteArray) (hs : s.size ≤ 140737488351232) (_ : ∀ x ∈ l, x.size ≤ 140737488351232) (hl : l.length * 16 ≤ 140737488351232) : Ev (fun k => treemergelaw03_NameCandidates.f k s l) true := by
  have no : Ev (fun k => treemergelaw03_NameCandidates.j0 k s l true) true := by
    refine Ev.step (fun k => by rw [treemergelaw03_NameCandidates.j0, if_pos rfl]) (awake_ev.bind (Ev.now _))
  unfold treemergelaw03_NameCandidates.f
  by_cases h : (s.size : Int) > 100
  · exact Ev.pos h no
  · refine Ev.neg h ((short_ev l 60 100 (by decide)).bind ?_)
    cases hc : shortB l 60 100 with
    | false => exact no
    | true =>
      have hlen := shortB_len hc
      refine Ev.step (fun k => by rw [treemergelaw03_NameCandidates.j0, if_neg (by decide)]) ?_
      cases hv : vS s with
      | true =>
        obtain ⟨r, h1, h2, _⟩ := fresh_all s l hlen hs hv
        exact Ev.known h1 (h2.bind (awake_ev.bind (Ev.pos rfl (Ev.pos rfl (Ev.now _)))))
      | false =>
        obtain ⟨h1, h2⟩ := fresh_bad s l hs hv
        exact Ev.known h1 (h2.bind (awake_ev.bind (Ev.pos rfl (Ev.pos rfl (Ev.now _)))))
theorem NameLists (l : List ByteArray) (s : ByteArray) (_ : ∀ x ∈ l, x.size ≤ 140737488351232) (hl : l.length * 16 ≤ 140737488351232) (hs : s.size ≤ 140737488351232) : Ev (fun k => treemergelaw03_NameLists.f k l s) true := by
  have no : Ev (fun k => treemergelaw03_NameLists.j0 k l s true) true := by
    refine Ev.step (fun k => by rw [treemergelaw03_NameLists.j0, if_pos rfl]) (awake_ev.bind (Ev.now _))
  unfold treemergelaw03_NameLists.f
  by_cases h : (s.size : Int) > 100
  · exact Ev.pos h no
  · refine Ev.neg h ((short_ev l 60 100 (by decide)).bind ?_)
    cases hc : shortB l 60 100 with
    | false => exact no
    | true =>
      have hlen := shortB_len hc
      have h61 := insertS_len l s
      refine Ev.step (fun k => by rw [treemergelaw03_NameLists.j0, if_neg (by decide)]) ?_
      refine awake_ev.bind (Ev.pos rfl (Ev.known (insert_of l s (by omega)) ((rinsert_ev l s (by omega)).bind ((strings_ev _ (by omega)).bind (Ev.pos rfl ((has_ev l s (by omega)).bind ((rhas_ev l s (by omega)).bind ?_)))))))
      exact Ev.cast (by simp) (Ev.now _)
theorem NameFresh (s : ByteArray) (l : List ByteArray) (hs : s.size ≤ 140737488351232) (_ : ∀ x ∈ l, x.size ≤ 140737488351232) (hl : l.length * 16 ≤ 140737488351232) : Ev (fun k => treemergelaw03_NameFresh.f k s l) true := by
  have no : Ev (fun k => treemergelaw03_NameFresh.j0 k s l true) true := by
    refine Ev.step (fun k => by rw [treemergelaw03_NameFresh.j0, if_pos rfl]) (awake_ev.bind (Ev.now _))
  unfold treemergelaw03_NameFresh.f
  by_cases h : (s.size : Int) > 100
  · exact Ev.pos h no
  · refine Ev.neg h ((short_ev l 60 100 (by decide)).bind ?_)
    cases hc : shortB l 60 100 with
    | false => exact no
    | true =>
      have hlen := shortB_len hc
      refine Ev.step (fun k => by rw [treemergelaw03_NameFresh.j0, if_neg (by decide)]) ?_
      cases hv : vS s with
      | true =>
        obtain ⟨r, h1, _, h3, h4, h5⟩ := fresh_all s l hlen hs hv
        refine Ev.known h1 (Ev.known (valid_of s) (Ev.pos hv (Ev.pos rfl (Ev.known (valid_of _) (Ev.pos h3 ((has_ev l r (by omega)).bind ?_))))))
        rw [h4]
        refine Ev.step (fun k => by rw [treemergelaw03_NameFresh.j1, if_neg (by decide)]) (awake_ev.bind (Ev.pos rfl ((has_ev l s (by omega)).bind ?_)))
        cases ht : inB l s with
        | true => exact Ev.pos rfl (Ev.now _)
        | false => exact Ev.neg (by decide) (Ev.cast (by rw [h5 ht]; simp) (Ev.now _))
      | false =>
        obtain ⟨h1, _⟩ := fresh_bad s l hs hv
        exact Ev.known h1 (Ev.known (valid_of s) (Ev.neg (by rw [hv]; decide) (awake_ev.bind (Ev.pos rfl (Ev.pos (by simp [toList_eq]) (Ev.now _))))))
theorem ins_again (l : List ByteArray) (s : ByteArray) (h : SS l) (hs : s ∈ l) : insertS l s = l := by
  obtain ⟨a, b⟩ := insertS_spec l s
  refine ss_ext _ _ a h fun z => ?_
  rw [b]
  exact ⟨fun h => h.elim id fun e => e ▸ hs, .inl⟩
theorem ins_swap (l : List ByteArray) (s t : ByteArray) : insertS (insertS l s) t = insertS (insertS l t) s := by
  obtain ⟨a, b⟩ := insertS_spec (insertS l s) t
  obtain ⟨a', b'⟩ := insertS_spec (insertS l t) s
  refine ss_ext _ _ a a' fun z => ?_
  rw [b, b', (insertS_spec l s).2, (insertS_spec l t).2]
  constructor
  · rintro ((h | h) | h)
    · exact .inl (.inl h)
    · exact .inr h
    · exact .inl (.inr h)
  · rintro ((h | h) | h)
    · exact .inl (.inl h)
    · exact .inr h
    · exact .inl (.inr h)
theorem NameSorts_l1 (l : List ByteArray) (s t : ByteArray) (hl : l.length ≤ 40) : ∀ (m i : Nat), i + m = l.length → Ev (fun k => treemergelaw03_NameSorts.l1 k l s t (insertS l s) (i : Int)) true := by
  have h1 := insertS_len l s
  have h2 := insertS_len (insertS l s) t
  have h3 := insertS_len l t
  have h4 := insertS_len (insertS l t) s
  intro m
  induction m with
  | zero =>
    intro i hi
    refine Ev.step (fun k => by rw [treemergelaw03_NameSorts.l1, if_neg (by omega)]) (awake_ev.bind (Ev.pos rfl ((lhas_ev (insertS l s) s (by omega)).bind (Ev.pos ?_ ?_))))
    · rw [inB_iff, (insertS_spec l s).2]
      exact .inr rfl
    · refine Ev.known (insert_of _ _ (by omega)) ?_
      rw [ins_again _ s (insertS_spec l s).1 (((insertS_spec l s).2 s).2 (.inr rfl))]
      refine (strings_ev _ (by omega)).bind (Ev.pos rfl (Ev.known (insert_of _ _ (by omega)) (Ev.known (insert_of _ _ (by omega)) (Ev.known (insert_of _ _ (by omega)) ?_))))
      rw [ins_swap l s t]
      exact (strings_ev _ (by omega)).bind (Ev.now _)
  | succ m ih =>
    intro i hi
    have hlt : i < l.length := by omega
    refine Ev.step (fun k => by rw [treemergelaw03_NameSorts.l1, if_pos (by omega), if_pos (by omega), rdOf_at l i hlt, wrap_up (n := l.length) (by omega) (by omega) (by omega)]) ((lhas_ev (insertS l s) _ (by omega)).bind (Ev.pos ?_ ?_))
    · rw [inB_iff, (insertS_spec l s).2]
      exact .inl (List.getElem_mem _)
    · exact ih (i + 1) (by omega)
theorem NameSorts_l0 (l : List ByteArray) (s t : ByteArray) (hl : l.length ≤ 40) : ∀ (m i : Nat), i + m = (insertS l s).length → Ev (fun k => treemergelaw03_NameSorts.l0 k l s t (insertS l s) (i : Int)) true := by
  have h1 := insertS_len l s
  obtain ⟨hss, hmem⟩ := insertS_spec l s
  intro m
  induction m with
  | zero =>
    intro i hi
    refine Ev.step (fun k => by rw [treemergelaw03_NameSorts.l0, if_neg (by omega)]) ?_
    exact NameSorts_l1 l s t hl l.length 0 (by omega)
  | succ m ih =>
    intro i hi
    have hlt : i < (insertS l s).length := by omega
    have next := ih (i + 1) (by omega)
    have tail : Ev (fun k => if (rdOf ByteArray.empty (insertS l s) (i : Int)).toList = s.toList then treemergelaw03_NameSorts.l0 k l s t (insertS l s) (wrap64 ((i : Int) + 1)) else ((treemergelaw03_has.f k l (rdOf ByteArray.empty (insertS l s) (i : Int))).bind fun t228 => if t228 = true then treemergelaw03_NameSorts.l0 k l s t (insertS l s) (wrap64 ((i : Int) + 1)) else some false)) true := by
      rw [rdOf_at _ i hlt, wrap_up (n := 1000) (by omega) (by omega) (by omega)]
      by_cases he : (insertS l s)[i] = s
      · exact Ev.pos (by rw [he]) next
      · refine Ev.neg (fun e => he (toList_inj.1 e)) ((lhas_ev _ _ (by omega)).bind (Ev.pos ?_ next))
        rw [inB_iff]
        exact ((hmem _).1 (List.getElem_mem hlt)).elim id fun e => absurd e he
    by_cases h0 : i = 0
    · subst h0
      refine Ev.step (fun k => by rw [treemergelaw03_NameSorts.l0, if_pos (by omega), if_neg (by omega), if_pos (by omega)]) tail
    · have e1 : wrap64 ((i : Int) - 1) = ((i - 1 : Nat) : Int) := by unfold wrap64; omega
      refine Ev.step (fun k => by rw [treemergelaw03_NameSorts.l0, if_pos (by omega), if_pos (by omega), if_pos (by omega), e1, if_pos (by omega), if_pos (by omega)]) (Ev.pos ?_ tail)
      rw [less_iff, rdOf_at _ i hlt, rdOf_at _ (i - 1) (by omega), toList_eq, toList_eq]
      exact List.pairwise_iff_getElem.1 hss (i - 1) i (by omega) hlt (by omega)
theorem NameSorts (l : List ByteArray) (s t : ByteArray) (_ : ∀ x ∈ l, x.size ≤ 140737488351232) (hl : l.length * 16 ≤ 140737488351232) (hs : s.size ≤ 140737488351232) (ht : t.size ≤ 140737488351232) : Ev (fun k => treemergelaw03_NameSorts.f k l s t) true := by
  have no : Ev (fun k => treemergelaw03_NameSorts.j0 k l s t true) true := by
    refine Ev.step (fun k => by rw [treemergelaw03_NameSorts.j0, if_pos rfl]) (awake_ev.bind (Ev.now _))
  unfold treemergelaw03_NameSorts.f
  by_cases h : (s.size : Int) > 100
  · exact Ev.pos h no
  · refine Ev.neg h ?_
    by_cases h' : (t.size : Int) > 100
    · exact Ev.pos h' no
    refine Ev.neg h' ((short_ev l 40 100 (by decide)).bind ?_)
    cases hc : shortB l 40 100 with
    | false => exact no
    | true =>
      have hlen := shortB_len hc
      refine Ev.step (fun k => by rw [treemergelaw03_NameSorts.j0, if_neg (by decide)]) (Ev.known (insert_of _ _ (by omega)) ?_)
      exact NameSorts_l0 l s t hlen (insertS l s).length 0 (by omega)
theorem goes_ev (x0 x5 : ByteArray) (c : Int) (r : Bool) (h : ∀ b, b = (letterB c || digitB c) → Ev (fun k => treemergelaw03_NameGrows.j1 k x0 x5 b) r) :
    Ev (fun k => if c ≥ 97 then (if c ≤ 122 then (treemergelaw03_NameGrows.j1 k x0 x5 true) else (if c ≥ 65 then (if c ≤ 90 then (treemergelaw03_NameGrows.j1 k x0 x5 true) else (if c ≥ 48 then (if c ≤ 57 then (treemergelaw03_NameGrows.j1 k x0 x5 true) else (treemergelaw03_NameGrows.j1 k x0 x5 (c == 95))) else (treemergelaw03_NameGrows.j1 k x0 x5 (c == 95)))) else (if c ≥ 48 then (if c ≤ 57 then (treemergelaw03_NameGrows.j1 k x0 x5 true) else (treemergelaw03_NameGrows.j1 k x0 x5 (c == 95))) else (treemergelaw03_NameGrows.j1 k x0 x5 (c == 95))))) else (if c ≥ 65 then (if c ≤ 90 then (treemergelaw03_NameGrows.j1 k x0 x5 true) else (if c ≥ 48 then (if c ≤ 57 then (treemergelaw03_NameGrows.j1 k x0 x5 true) else (treemergelaw03_NameGrows.j1 k x0 x5 (c == 95))) else (treemergelaw03_NameGrows.j1 k x0 x5 (c == 95)))) else (if c ≥ 48 then (if c ≤ 57 then (treemergelaw03_NameGrows.j1 k x0 x5 true) else (treemergelaw03_NameGrows.j1 k x0 x5 (c == 95))) else (treemergelaw03_NameGrows.j1 k x0 x5 (c == 95))))) r := by
  refine Ev.congr (f := fun k => treemergelaw03_NameGrows.j1 k x0 x5 (letterB c || digitB c)) (fun k => ?_) (h _ rfl)
  unfold letterB digitB
  generalize hj : treemergelaw03_NameGrows.j1 k x0 x5 = J
  repeat' split
  all_goals congr 1
  all_goals rw [Bool.eq_iff_iff]
  all_goals simp
  all_goals omega
theorem NameGrows (s : ByteArray) (c : Int) (hs : s.size ≤ 140737488351232) (hc : (Lit.int .u8 c).wf = true) : Ev (fun k => treemergelaw03_NameGrows.f k s c) true := by
  have hc' : 0 ≤ c ∧ c < 256 := by
    simp [Lit.wf, IntKind.min, IntKind.max, IntKind.bits, IntKind.signed] at hc
    omega
  have e : (strOfNums [c]).data.toList = [UInt8.ofNat c.toNat] := by simp [strOfNums]
  have ec : ((UInt8.ofNat c.toNat).toNat : Int) = c := by simp; omega
  have no : Ev (fun k => treemergelaw03_NameGrows.j2 k (s ++ strOfNums [c]) (letterB c || digitB c) true) true :=
    Ev.step (fun k => by rw [treemergelaw03_NameGrows.j2, if_pos rfl]) (awake_ev.bind (Ev.now _))
  unfold treemergelaw03_NameGrows.f
  by_cases h : (s.size : Int) > 100
  · exact Ev.pos h (awake_ev.bind (Ev.now _))
  · have main : Ev (fun k => treemergelaw03_NameGrows.j0 k s c false) true := by
      refine Ev.step (fun k => by rw [treemergelaw03_NameGrows.j0, if_neg (by decide)]) ?_
      refine Ev.known rfl ?_
      refine Ev.pos (by rw [strOfNums_size]; simp; omega) ?_
      refine goes_ev _ _ _ _ fun b hb => ?_
      subst hb
      refine Ev.step (fun k => by rw [treemergelaw03_NameGrows.j1]) (Ev.known (valid_of s) ?_)
      cases hv : vS s with
      | false => exact Ev.neg (by decide) no
      | true =>
        refine Ev.pos rfl ?_
        by_cases h2 : ((s ++ strOfNums [c]).size : Int) > 32
        · exact Ev.pos h2 no
        · refine Ev.neg h2 (Ev.known (kw_of _) ?_)
          cases hk : kw (s ++ strOfNums [c]) with
          | true => exact no
          | false =>
            refine Ev.step (fun k => by rw [treemergelaw03_NameGrows.j2, if_neg (by decide)]) (awake_ev.bind (Ev.pos rfl (Ev.known (valid_of _) ?_)))
            refine Ev.cast ?_ (Ev.now _)
            rw [beq_iff_eq]
            unfold vS at hv ⊢
            simp only [Bool.and_eq_true, decide_eq_true_eq] at hv
            obtain ⟨⟨⟨v1, v2⟩, _⟩, v4⟩ := hv
            have hd : (s ++ strOfNums [c]).data.toList = s.data.toList ++ [UInt8.ofNat c.toNat] := by simp [e]
            have n0 : (s ++ strOfNums [c]).size ≠ 0 := by rw [ByteArray.size_append]; omega
            rw [hk, hd, decide_eq_true n0, decide_eq_true (show (s ++ strOfNums [c]).size ≤ 32 by omega)]
            cases hb : s.data.toList with
            | nil =>
              rw [size_len, hb] at v1
              simp at v1
            | cons a r =>
              rw [hb, vl, Bool.and_eq_true] at v4
              rw [List.cons_append, vl, List.all_append, v4.1, v4.2, List.all_cons, List.all_nil, wordB, ec]
              simp
    refine Ev.neg h (Ev.known (kw_of s) ?_)
    cases hk : kw s with
    | false => exact Ev.neg (by decide) main
    | true =>
      refine Ev.pos rfl (Ev.known (valid_of s) ?_)
      have : vS s = false := by unfold vS; rw [hk]; simp
      rw [this]
      exact main
end Go.Proofs.YtjkdgbndpdfkiaaDoor.Pure
