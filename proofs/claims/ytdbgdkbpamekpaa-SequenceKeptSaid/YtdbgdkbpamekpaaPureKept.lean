/- Kept: the reference's elements are those of the program (chapter 32). -/
import Derived.Test.YtdbgdkbpamekpaaPureBase
import Derived.Test.YtdbgdkbpamekpaaQ8
namespace Go.Proofs.Ytdbgdkbpamekpaa.Pure
set_option linter.unusedVariables false
open Go.RowKit Go.Proofs.Ytdbgdkbpamekpaa.Q Go.Proofs.YtdbgdkbpamekpaaW.PrintWords Go.Proofs.YtdbgdkbpamekpaaW.PrintLast

def putS : List Int → Int → List Int
  | [], x => [x]
  | y :: l, x => if y > x then x :: y :: l else y :: putS l x
theorem putS_mem : ∀ (l : List Int) (x y : Int), y ∈ putS l x ↔ y = x ∨ y ∈ l
  | [], x, y => by simp [putS]
  | a :: l, x, y => by
    rw [putS]
    by_cases h : a > x
    · rw [if_pos h, List.mem_cons]
    · rw [if_neg h, List.mem_cons, putS_mem l x y, List.mem_cons]
      constructor
      · rintro (h | h | h)
        · exact .inr (.inl h)
        · exact .inl h
        · exact .inr (.inr h)
      · rintro (h | h | h)
        · exact .inr (.inl h)
        · exact .inl h
        · exact .inr (.inr h)
theorem putS_len : ∀ (l : List Int) (x : Int), (putS l x).length = l.length + 1
  | [], x => rfl
  | a :: l, x => by
    rw [putS]
    by_cases h : a > x
    · rw [if_pos h]; simp
    · rw [if_neg h]; simp [putS_len l x]
theorem putS_lt : ∀ (l : List Int) (x : Int), l.Pairwise (· < ·) → x ∉ l → (putS l x).Pairwise (· < ·)
  | [], x, _, _ => by simp [putS]
  | a :: l, x, h, hn => by
    rw [putS]
    have ha : a ≠ x := fun e => hn (by simp [e])
    have hc := List.pairwise_cons.1 h
    by_cases c : a > x
    · rw [if_pos c]
      refine List.pairwise_cons.2 ⟨fun y hy => ?_, h⟩
      rcases List.mem_cons.1 hy with rfl | hy
      · exact c
      · have := hc.1 y hy
        omega
    · rw [if_neg c]
      refine List.pairwise_cons.2 ⟨fun y hy => ?_, putS_lt l x hc.2 (fun e => hn (List.mem_cons_of_mem _ e))⟩
      rcases (putS_mem l x y).1 hy with rfl | hy
      · omega
      · exact hc.1 y hy
theorem put_ev (l : List Int) (x : Int) (hn : l.length ≤ 1000000) : Ev (fun k => treemergeref32_put.f k l x) (putS l x) := by
  have key : ∀ j i (out : List Int) (d : Bool), i + j = l.length → out.length ≤ i + (if d = true then 1 else 0) → Ev (fun k => treemergeref32_put.l0 k l x out d (i : Int)) (out ++ (if d = true then l.drop i else putS (l.drop i) x)) := by
    intro j
    induction j with
    | zero =>
      intro i out d hi ho
      have ho' : out.length ≤ i + 1 := by split at ho <;> omega
      refine Ev.step (fun k => by rw [treemergeref32_put.l0]) (Ev.neg (by omega) ?_)
      rw [List.drop_of_length_le (by omega)]
      cases d with
      | true => exact Ev.pos rfl (Ev.cast (by simp) (Ev.now _))
      | false => exact Ev.neg (by simp) (Ev.pos (by omega) (Ev.cast (by simp [putS]) (Ev.now _)))
    | succ j ih =>
      intro i out d hi ho
      have ho' : out.length ≤ i + 1 := by split at ho <;> omega
      have h1 : i < l.length := by omega
      refine Ev.step (fun k => by rw [treemergeref32_put.l0]) (Ev.pos (by omega) ?_)
      rw [rd_at h1, List.drop_eq_getElem_cons h1, wrap_up h1 (by omega)]
      cases d with
      | true =>
        refine Ev.pos rfl (Ev.pos (by omega) (Ev.pos (by omega) (Ev.cast ?_ (ih (i + 1) (out ++ [l[i]]) true (by omega) (by simp at ho ⊢; omega)))))
        simp
      | false =>
        refine Ev.neg (by simp) (Ev.pos (by omega) ?_)
        by_cases c : l[i] > x
        · refine Ev.pos c (Ev.pos (by omega) ?_)
          refine Ev.cast ?_ (Ev.bind (Ev.now (out ++ [x])) (Ev.pos (by simp; omega) (ih (i + 1) (out ++ [x] ++ [l[i]]) true (by omega) (by simp at ho ⊢; omega))))
          simp [putS, c]
        · refine Ev.neg c (Ev.pos (by omega) (Ev.cast ?_ (ih (i + 1) (out ++ [l[i]]) false (by omega) (by simp at ho ⊢; omega))))
          simp [putS, c]
  have := key l.length 0 [] false (by omega) (by simp)
  unfold treemergeref32_put.f
  simpa using this
def ref0 (p q : List Int) : List Int → List Int → List Int
  | [], out => out
  | a :: l, out => ref0 p q l (if a ∈ p ∧ a ∈ q ∧ a ∉ out then out ++ [a] else out)
def refM (b : List Int) : List Int → List Int → List Int
  | [], m => m
  | a :: l, m => refM b l (if a ∉ b ∧ a ∉ m then putS m a else m)
theorem ref0_eq (p q : List Int) : ∀ (l out : List Int), ref0 p q l (out.filter fun x => decide (x ∈ p ∧ x ∈ q)) = (onceL l out).filter fun x => decide (x ∈ p ∧ x ∈ q)
  | [], out => rfl
  | a :: l, out => by
    rw [ref0, onceL]
    have hm : a ∈ out.filter (fun x => decide (x ∈ p ∧ x ∈ q)) ↔ a ∈ out ∧ a ∈ p ∧ a ∈ q := by simp [List.mem_filter]
    by_cases ho : a ∈ out
    · rw [if_pos ho, if_neg (by rw [hm]; rintro ⟨h1, h2, h3⟩; exact h3 ⟨ho, h1, h2⟩), ref0_eq p q l out]
    · rw [if_neg ho, ← ref0_eq p q l (out ++ [a])]
      congr 1
      by_cases hp : a ∈ p ∧ a ∈ q
      · rw [if_pos (by rw [hm]; exact ⟨hp.1, hp.2, fun h => ho h.1⟩), List.filter_append]
        simp [hp]
      · rw [if_neg (fun h => hp ⟨h.1, h.2.1⟩), List.filter_append]
        simp [hp]
theorem ref0_len (p q : List Int) : ∀ (l out : List Int), (ref0 p q l out).length ≤ out.length + l.length
  | [], out => by simp [ref0]
  | a :: l, out => by
    rw [ref0]
    have := ref0_len p q l (if a ∈ p ∧ a ∈ q ∧ a ∉ out then out ++ [a] else out)
    by_cases h : a ∈ p ∧ a ∈ q ∧ a ∉ out
    · rw [if_pos h] at this ⊢
      simp at this ⊢
      omega
    · rw [if_neg h] at this ⊢
      simp
      omega
theorem refM_inv (b : List Int) : ∀ (l m : List Int), m.Pairwise (· < ·) → (refM b l m).Pairwise (· < ·) ∧ (refM b l m).length ≤ m.length + l.length ∧ ∀ x, x ∈ refM b l m ↔ x ∈ m ∨ (x ∈ l ∧ x ∉ b)
  | [], m, h => ⟨h, by simp [refM], fun x => by simp [refM]⟩
  | a :: l, m, h => by
    rw [refM]
    by_cases c : a ∉ b ∧ a ∉ m
    · rw [if_pos c]
      obtain ⟨h1, h2, h3⟩ := refM_inv b l (putS m a) (putS_lt m a h c.2)
      refine ⟨h1, by rw [putS_len] at h2; simp; omega, fun x => ?_⟩
      rw [h3, putS_mem, List.mem_cons]
      constructor
      · rintro ((rfl | h) | h)
        · exact .inr ⟨.inl rfl, c.1⟩
        · exact .inl h
        · exact .inr ⟨.inr h.1, h.2⟩
      · rintro (h | ⟨rfl | h, h'⟩)
        · exact .inl (.inr h)
        · exact .inl (.inl rfl)
        · exact .inr ⟨h, h'⟩
    · rw [if_neg c]
      obtain ⟨h1, h2, h3⟩ := refM_inv b l m h
      refine ⟨h1, by simp; omega, fun x => ?_⟩
      rw [h3, List.mem_cons]
      constructor
      · rintro (h | h)
        · exact .inl h
        · exact .inr ⟨.inr h.1, h.2⟩
      · rintro (h | ⟨rfl | h, h'⟩)
        · exact .inl h
        · by_cases hm : x ∈ m
          · exact .inl hm
          · exact absurd ⟨h', hm⟩ c
        · exact .inr ⟨h, h'⟩
theorem refM_append (b : List Int) : ∀ (l l' m : List Int), refM b (l ++ l') m = refM b l' (refM b l m)
  | [], l', m => rfl
  | a :: l, l', m => by rw [List.cons_append, refM, refM, refM_append b l l']
theorem refKept (b p q : List Int) : ref0 p q b [] ++ refM b (p ++ q) [] = keptS b p q := by
  rw [keptS_eq]
  congr 1
  · exact ref0_eq p q b []
  · obtain ⟨h1, _, h3⟩ := refM_inv b (p ++ q) [] List.Pairwise.nil
    refine ext_sorted h1 (sortI_lt ((once_nodup _).filter _)) (fun x => ?_)
    rw [h3, sortI_mem]
    simp [List.mem_filter, once_mem]
theorem kept_ev (b p q : List Int) (hb : b.length ≤ 30) (hp : p.length ≤ 30) (hq : q.length ≤ 30) : Ev (fun k => treemergeref32_Kept.f k b p q) (keptS b p q) := by
  rw [← refKept]
  have k3 : ∀ j i (x7 x9 : List Int), i + j = x9.length → x7.length ≤ 1000 + i → x9.length ≤ 1000 → Ev (fun k => treemergeref32_Kept.l3 k x7 x9 (i : Int)) (x7 ++ x9.drop i) := by
    intro j
    induction j with
    | zero =>
      intro i x7 x9 hi h7 h9
      refine Ev.step (fun k => by rw [treemergeref32_Kept.l3]) (Ev.neg (by omega) ?_)
      rw [List.drop_of_length_le (by omega), List.append_nil]
      exact Ev.now _
    | succ j ih =>
      intro i x7 x9 hi h7 h9
      have h1 : i < x9.length := by omega
      refine Ev.step (fun k => by rw [treemergeref32_Kept.l3]) (Ev.pos (by omega) (Ev.pos (by omega) (Ev.pos (by omega) ?_)))
      rw [rd_at h1, List.drop_eq_getElem_cons h1, wrap_up h1 (by omega)]
      exact Ev.cast (by rw [List.append_assoc]; rfl) (ih (i + 1) (x7 ++ [x9[i]]) x9 (by omega) (by simp; omega) h9)
  have k2 : ∀ j i (x7 m : List Int), i + j = q.length → x7.length ≤ 1000 → m.length ≤ 100 + i → Ev (fun k => treemergeref32_Kept.l2 k b q x7 m (i : Int)) (x7 ++ refM b (q.drop i) m) := by
    intro j
    induction j with
    | zero =>
      intro i x7 m hi h7 hm
      refine Ev.step (fun k => by rw [treemergeref32_Kept.l2]) (Ev.neg (by omega) ?_)
      rw [List.drop_of_length_le (by omega)]
      exact k3 m.length 0 x7 m (by omega) (by omega) (by omega)
    | succ j ih =>
      intro i x7 m hi h7 hm
      have h1 : i < q.length := by omega
      refine Ev.step (fun k => by rw [treemergeref32_Kept.l2]) (Ev.pos (by omega) (Ev.pos (by omega) ?_))
      rw [rd_at h1, List.drop_eq_getElem_cons h1, wrap_up h1 (by omega), refM]
      refine Ev.bind (has_ev b q[i] (by omega)) ?_
      by_cases c1 : q[i] ∈ b
      · refine Ev.pos (by simp [c1]) ?_
        rw [if_neg (fun h => h.1 c1)]
        exact ih (i + 1) x7 m (by omega) h7 (by omega)
      · refine Ev.neg (by simp [c1]) (Ev.bind (has_ev m q[i] (by omega)) ?_)
        by_cases c2 : q[i] ∈ m
        · refine Ev.pos (by simp [c2]) ?_
          rw [if_neg (fun h => h.2 c2)]
          exact ih (i + 1) x7 m (by omega) h7 (by omega)
        · refine Ev.neg (by simp [c2]) (Ev.bind (put_ev m q[i] (by omega)) ?_)
          rw [if_pos ⟨c1, c2⟩]
          exact ih (i + 1) x7 (putS m q[i]) (by omega) h7 (by rw [putS_len]; omega)
  have k1 : ∀ j i (x7 m : List Int), i + j = p.length → x7.length ≤ 1000 → m.length ≤ i → Ev (fun k => treemergeref32_Kept.l1 k b p q x7 m (i : Int)) (x7 ++ refM b (p.drop i ++ q) m) := by
    intro j
    induction j with
    | zero =>
      intro i x7 m hi h7 hm
      refine Ev.step (fun k => by rw [treemergeref32_Kept.l1]) (Ev.neg (by omega) ?_)
      rw [List.drop_of_length_le (by omega), List.nil_append]
      exact k2 q.length 0 x7 m (by omega) (by omega) (by omega)
    | succ j ih =>
      intro i x7 m hi h7 hm
      have h1 : i < p.length := by omega
      refine Ev.step (fun k => by rw [treemergeref32_Kept.l1]) (Ev.pos (by omega) (Ev.pos (by omega) ?_))
      rw [rd_at h1, List.drop_eq_getElem_cons h1, wrap_up h1 (by omega), List.cons_append, refM]
      refine Ev.bind (has_ev b p[i] (by omega)) ?_
      by_cases c1 : p[i] ∈ b
      · refine Ev.pos (by simp [c1]) ?_
        rw [if_neg (fun h => h.1 c1)]
        exact ih (i + 1) x7 m (by omega) h7 (by omega)
      · refine Ev.neg (by simp [c1]) (Ev.bind (has_ev m p[i] (by omega)) ?_)
        by_cases c2 : p[i] ∈ m
        · refine Ev.pos (by simp [c2]) ?_
          rw [if_neg (fun h => h.2 c2)]
          exact ih (i + 1) x7 m (by omega) h7 (by omega)
        · refine Ev.neg (by simp [c2]) (Ev.bind (put_ev m p[i] (by omega)) ?_)
          rw [if_pos ⟨c1, c2⟩]
          exact ih (i + 1) x7 (putS m p[i]) (by omega) h7 (by rw [putS_len]; omega)
  have k0 : ∀ j i (x7 : List Int), i + j = b.length → x7.length ≤ i → Ev (fun k => treemergeref32_Kept.l0 k b p q x7 (i : Int)) (ref0 p q (b.drop i) x7 ++ refM b (p ++ q) []) := by
    intro j
    induction j with
    | zero =>
      intro i x7 hi h7
      refine Ev.step (fun k => by rw [treemergeref32_Kept.l0]) (Ev.neg (by omega) ?_)
      rw [List.drop_of_length_le (by omega), ref0]
      exact k1 p.length 0 x7 [] (by omega) (by omega) (by simp)
    | succ j ih =>
      intro i x7 hi h7
      have h1 : i < b.length := by omega
      refine Ev.step (fun k => by rw [treemergeref32_Kept.l0]) (Ev.pos (by omega) (Ev.pos (by omega) ?_))
      rw [rd_at h1, List.drop_eq_getElem_cons h1, wrap_up h1 (by omega), ref0]
      refine Ev.bind (has_ev p b[i] (by omega)) ?_
      by_cases c1 : b[i] ∈ p
      · refine Ev.pos (by simp [c1]) (Ev.bind (has_ev q b[i] (by omega)) ?_)
        by_cases c2 : b[i] ∈ q
        · refine Ev.pos (by simp [c2]) (Ev.bind (has_ev x7 b[i] (by omega)) ?_)
          by_cases c3 : b[i] ∈ x7
          · refine Ev.pos (by simp [c3]) ?_
            rw [if_neg (fun h => h.2.2 c3)]
            exact ih (i + 1) x7 (by omega) (by omega)
          · refine Ev.neg (by simp [c3]) (Ev.pos (by omega) ?_)
            rw [if_pos ⟨c1, c2, c3⟩]
            exact ih (i + 1) (x7 ++ [b[i]]) (by omega) (by simp; omega)
        · refine Ev.neg (by simp [c2]) ?_
          rw [if_neg (fun h => c2 h.2.1)]
          exact ih (i + 1) x7 (by omega) (by omega)
      · refine Ev.neg (by simp [c1]) ?_
        rw [if_neg (fun h => c1 h.1)]
        exact ih (i + 1) x7 (by omega) (by omega)
  exact k0 b.length 0 [] (by omega) (by simp)

end Go.Proofs.Ytdbgdkbpamekpaa.Pure
