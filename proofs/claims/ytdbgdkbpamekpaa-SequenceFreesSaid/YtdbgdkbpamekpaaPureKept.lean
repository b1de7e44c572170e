/- Kept: the reference's elements are those of the program (chapter 32). -/
import Derived.Test.YtdbgdkbpamekpaaPureDiv
namespace Go.Proofs.Ytdbgdkbpamekpaa.Pure
set_option linter.unusedVariables false
open Go.RowKit Go.Proofs.Ytdbgdkbpamekpaa.Q Go.Proofs.YtdbgdkbpamekpaaW.PrintWords Go.Proofs.YtdbgdkbpamekpaaW.PrintLast

def putS : List Int → Int → List Int
 | [], x => [x]
 | y :: l, x => if y > x then x :: y :: l else y :: putS l x
theorem putS_mem : ∀ (l : List Int) (x y : Int), y ∈ putS l x ↔ y = x ∨ y ∈ l
 | [], x, y => by simp [putS]
 | a :: l, x, y => by
  rw [putS]
  by_cases h : a > x
  ·rw [if_pos h, List.mem_cons]
  ·rw [if_neg h, List.mem_cons, putS_mem l x y, List.mem_cons]
   constructor
   ·rintro (h | h | h)
    ·exact .inr (.inl h)
    ·exact .inl h
    ·exact .inr (.inr h)
   ·rintro (h | h | h)
    ·exact .inr (.inl h)
    ·exact .inl h
    ·exact .inr (.inr h)
theorem putS_len : ∀ (l : List Int) (x : Int), (putS l x).length = l.length + 1
 | [], x => rfl
 | a :: l, x => by
  rw [putS]
  by_cases h : a > x
  ·rw [if_pos h]; simp
  ·rw [if_neg h]; simp [putS_len l x]
theorem putS_lt : ∀ (l : List Int) (x : Int), l.Pairwise (· < ·) → x ∉ l → (putS l x).Pairwise (· < ·)
 | [], x, _, _ => by simp [putS]
 | a :: l, x, h, hn => by
  rw [putS]
  have ha : a ≠ x := fun e => hn (by simp [e])
  have hc := List.pairwise_cons.1 h
  by_cases c : a > x
  ·rw [if_pos c]
   refine List.pairwise_cons.2 ⟨fun y hy => ?_, h⟩
   rcases List.mem_cons.1 hy with rfl | hy
   ·exact c
   ·have := hc.1 y hy
    omega
  ·rw [if_neg c]
   refine List.pairwise_cons.2 ⟨fun y hy => ?_, putS_lt l x hc.2 (fun e => hn (List.mem_cons_of_mem _ e))⟩
   rcases (putS_mem l x y).1 hy with rfl | hy
   ·omega
   ·exact hc.1 y hy
theorem put_ev (l : List Int) (x : Int) (hn : l.length ≤ 1000000) : Ev (fun k => treemergeref32_put.f k l x) (putS l x) := by
 have key : ∀ j i (out : List Int) (d : Bool), i + j = l.length → out.length ≤ i + (if d = true then 1 else 0) → Ev (fun k => treemergeref32_put.l0 k l x out d (i : Int)) (out ++ (if d = true then l.drop i else putS (l.drop i) x)) := by
  intro j
  induction j with
  | zero =>
   intro i out d hi ho
   have ho' : out.length ≤ i + 1 := by split at ho <;> omega
   refine Ev.step (fun k => by rw [treemergeref32_put.l0]) (Ev.neg (by omega) ?_)
   rw [List.drop_of_length_le (by omega)]
   cases d with
   | true => exact Ev.pos rfl (Ev.cast (by simp) (Ev.now _))
   | false => exact Ev.neg (by simp) (Ev.pos (by omega) (Ev.cast (by simp [putS]) (Ev.now _)))
  | succ j ih =>
   intro i out d hi ho
   have ho' : out.length ≤ i + 1 := by split at ho <;> omega
   have h1 : i < l.length := by omega
   refine Ev.step (fun k => by rw [treemergeref32_put.l0]) (Ev.pos (by omega) ?_)
   rw [rd_at h1, List.drop_eq_getElem_cons h1, wrap_up h1 (by omega)]
   cases d with
   | true =>
    refine Ev.pos rfl (Ev.pos (by omega) (Ev.pos (by omega) (Ev.cast ?_ (ih (i + 1) (out ++ [l[i]]) true (by omega) (by simp at ho ⊢; omega)))))
    simp
   | false =>
    refine Ev.neg (by simp) (Ev.pos (by omega) ?_)
    by_cases c : l[i] > x
    ·refine Ev.pos c (Ev.pos (by omega) ?_)
     refine Ev.cast ?_ (Ev.bind (Ev.now (out ++ [x])) (Ev.pos (by simp; omega) (ih (i + 1) (out ++ [x] ++ [l[i]]) true (by omega) (by simp at ho ⊢; omega))))
     simp [putS, c]
    ·refine Ev.neg c (Ev.pos (by omega) (Ev.cast ?_ (ih (i + 1) (out ++ [l[i]]) false (by omega) (by simp at ho ⊢; omega))))
     simp [putS, c]
 have := key l.length 0 [] false (by omega) (by simp)
 unfold treemergeref32_put.f
 simpa using this
def ref0 (p q : List Int) : List Int → List Int → List Int
 | [], out => out
 | a :: l, out => ref0 p q l (if a ∈ p ∧ a ∈ q ∧ a ∉ out then out ++ [a] else out)
def refM (b : List Int) : List Int → List Int → List Int
 | [], m => m
 | a :: l, m => refM b l (if a ∉ b ∧ a ∉ m then putS m a else m)
theorem ref0_eq (p q : List Int) : ∀ (l out : List Int), ref0 p q l (out.filter fun x => decide (x ∈ p ∧ x ∈ q)) = (onceL l out).filter fun x => decide (x ∈ p ∧ x ∈ q)
 | [], out => rfl
 | a :: l, out => by
  rw [ref0, onceL]
  have hm : a ∈ out.filter (fun x => decide (x ∈ p ∧ x ∈ q)) ↔ a ∈ out ∧ a ∈ p ∧ a ∈ q := by simp [List.mem_filter]
  by_cases ho : a ∈ out
  ·rw [if_pos ho, if_neg (by rw [hm]; rintro ⟨h1, h2, h3⟩; exact h3 ⟨ho, h1, h2⟩), ref0_eq p q l out]
  ·rw [if_neg ho, ← ref0_eq p q l (out ++ [a])]
   congr 1
   by_cases hp : a ∈ p ∧ a ∈ q
   ·rw [if_pos (by rw [hm]; exact ⟨hp.1, hp.2, fun h => ho h.1⟩), List.filter_append]
    simp [hp]
   ·rw [if_neg (fun h => hp ⟨h.1, h.2.1⟩), List.filter_append]
    simp [hp]
theorem ref0_len (p q : List Int) : ∀ (l out : List Int), (ref0 p q l out).length ≤ out.length + l.length
 | [], out => by simp [ref0]
 | a :: l, out => by
  rw [ref0]
  have := ref0_len p q l (if a ∈ p ∧ a ∈ q ∧ a ∉ out then out ++ [a] else out)
  by_cases h : a ∈ p ∧ a ∈ q ∧ a ∉ out
  ·rw [if_pos h] at this ⊢
   simp at this ⊢
   omega
  ·rw [if_neg h] at this ⊢
   simp
   omega
theorem refM_inv (b : List Int) : ∀ (l m : List Int), m.Pairwise (· < ·) → (refM b l m).Pairwise (· < ·) ∧ (refM b l m).length ≤ m.length + l.length ∧ ∀ x, x ∈ refM b l m ↔ x ∈ m ∨ (x ∈ l ∧ x ∉ b)
 | [], m, h => ⟨h, by simp [refM], fun x => by simp [refM]⟩
 | a :: l, m, h => by
  rw [refM]
  by_cases c : a ∉ b ∧ a ∉ m
  ·rw [if_pos c]
   obtain ⟨h1, h2, h3⟩ := refM_inv b l (putS m a) (putS_lt m a h c.2)
   refine ⟨h1, by rw [putS_len] at h2; simp; omega, fun x => ?_⟩
   rw [h3, putS_mem, List.mem_cons]
   constructor
   ·rintro ((rfl | h) | h)
    ·exact .inr ⟨.inl rfl, c.1⟩
    ·exact .inl h
    ·exact .inr ⟨.inr h.1, h.2⟩
   ·rintro (h | ⟨rfl | h, h'⟩)
    ·exact .inl (.inr h)
    ·exact .inl (.inl rfl)
    ·exact .inr ⟨h, h'⟩
  ·rw [if_neg c]
   obtain ⟨h1, h2, h3⟩ := refM_inv b l m h
   refine ⟨h1, by simp; omega, fun x => ?_⟩
   rw [h3, List.mem_cons]
   constructor
   ·rintro (h | h)
    ·exact .inl h
    ·exact .inr ⟨.inr h.1, h.2⟩
   ·rintro (h | ⟨rfl | h, h'⟩)
    ·exact .inl h
    ·by_cases hm : x ∈ m
     ·exact .inl hm
     ·exact absurd ⟨h', hm⟩ c
    ·exact .inr ⟨h, h'⟩
theorem refM_append (b : List Int) : ∀ (l l' m : List Int), refM b (l ++ l') m = refM b l' (refM b l m)
 | [], l', m => rfl
 | a :: l, l', m => by rw [List.cons_append, refM, refM, refM_append b l l']
theorem refKept (b p q : List Int) : ref0 p q b [] ++ refM b (p ++ q) [] = keptS b p q := by
 rw [keptS_eq]
 congr 1
 ·exact ref0_eq p q b []
 ·obtain ⟨h1, _, h3⟩ := refM_inv b (p ++ q) [] List.Pairwise.nil
  refine ext_sorted h1 (sortI_lt ((once_nodup _).filter _)) (fun x => ?_)
  rw [h3, sortI_mem]
  simp [List.mem_filter, once_mem]
theorem kept_ev (b p q : List Int) (hb : b.length ≤ 30) (hp : p.length ≤ 30) (hq : q.length ≤ 30) : Ev (fun k => treemergeref32_Kept.f k b p q) (keptS b p q) := by
 rw [← refKept]
 have k3 : ∀ j i (x7 x9 : List Int), i + j = x9.length → x7.length ≤ 1000 + i → x9.length ≤ 1000 → Ev (fun k => treemergeref32_Kept.l3 k x7 x9 (i : Int)) (x7 ++ x9.drop i) := by
  intro j
  induction j with
  | zero =>
   intro i x7 x9 hi h7 h9
   refine Ev.step (fun k => by rw [treemergeref32_Kept.l3]) (Ev.neg (by omega) ?_)
   rw [List.drop_of_length_le (by omega), List.append_nil]
   exact Ev.now _
  | succ j ih =>
   intro i x7 x9 hi h7 h9
   have h1 : i < x9.length := by omega
   refine Ev.step (fun k => by rw [treemergeref32_Kept.l3]) (Ev.pos (by omega) (Ev.pos (by omega) (Ev.pos (by omega) ?_)))
   rw [rd_at h1, List.drop_eq_getElem_cons h1, wrap_up h1 (by omega)]
   exact Ev.cast (by rw [List.append_assoc]; rfl) (ih (i + 1) (x7 ++ [x9[i]]) x9 (by omega) (by simp; omega) h9)
 have k2 : ∀ j i (x7 m : List Int), i + j = q.length → x7.length ≤ 1000 → m.length ≤ 100 + i → Ev (fun k => treemergeref32_Kept.l2 k b q x7 m (i : Int)) (x7 ++ refM b (q.drop i) m) := by
  intro j
  induction j with
  | zero =>
   intro i x7 m hi h7 hm
   refine Ev.step (fun k => by rw [treemergeref32_Kept.l2]) (Ev.neg (by omega) ?_)
   rw [List.drop_of_length_le (by omega)]
   exact k3 m.length 0 x7 m (by omega) (by omega) (by omega)
  | succ j ih =>
   intro i x7 m hi h7 hm
   have h1 : i < q.length := by omega
   refine Ev.step (fun k => by rw [treemergeref32_Kept.l2]) (Ev.pos (by omega) (Ev.pos (by omega) ?_))
   rw [rd_at h1, List.drop_eq_getElem_cons h1, wrap_up h1 (by omega), refM]
   refine Ev.bind (has_ev b q[i] (by omega)) ?_
   by_cases c1 : q[i] ∈ b
   ·refine Ev.pos (by simp [c1]) ?_
    rw [if_neg (fun h => h.1 c1)]
    exact ih (i + 1) x7 m (by omega) h7 (by omega)
   ·refine Ev.neg (by simp [c1]) (Ev.bind (has_ev m q[i] (by omega)) ?_)
    by_cases c2 : q[i] ∈ m
    ·refine Ev.pos (by simp [c2]) ?_
     rw [if_neg (fun h => h.2 c2)]
     exact ih (i + 1) x7 m (by omega) h7 (by omega)
    ·refine Ev.neg (by simp [c2]) (Ev.bind (put_ev m q[i] (by omega)) ?_)
     rw [if_pos ⟨c1, c2⟩]
     exact ih (i + 1) x7 (putS m q[i]) (by omega) h7 (by rw [putS_len]; omega)
 have k1 : ∀ j i (x7 m : List Int), i + j = p.length → x7.length ≤ 1000 → m.length ≤ i → Ev (fun k => treemergeref32_Kept.l1 k b p q x7 m (i : Int)) (x7 ++ refM b (p.drop i ++ q) m) := by
  intro j
  induction j with
  | zero =>
   intro i x7 m hi h7 hm
   refine Ev.step (fun k => by rw [treemergeref32_Kept.l1]) (Ev.neg (by omega) ?_)
   rw [List.drop_of_length_le (by omega), List.nil_append]
   exact k2 q.length 0 x7 m (by omega) (by omega) (by omega)
  | succ j ih =>
   intro i x7 m hi h7 hm
   have h1 : i < p.length := by omega
   refine Ev.step (fun k => by rw [treemergeref32_Kept.l1]) (Ev.pos (by omega) (Ev.pos (by omega) ?_))
   rw [rd_at h1, List.drop_eq_getElem_cons h1, wrap_up h1 (by omega), List.cons_append, refM]
   refine Ev.bind (has_ev b p[i] (by omega)) ?_
   by_cases c1 : p[i] ∈ b
   ·refine Ev.pos (by simp [c1]) ?_
    rw [if_neg (fun h => h.1 c1)]
    exact ih (i + 1) x7 m (by omega) h7 (by omega)
   ·refine Ev.neg (by simp [c1]) (Ev.bind (has_ev m p[i] (by omega)) ?_)
    by_cases c2 : p[i] ∈ m
    ·refine Ev.pos (by simp [c2]) ?_
     rw [if_neg (fun h => h.2 c2)]
     exact ih (i + 1) x7 m (by omega) h7 (by omega)
    ·refine Ev.neg (by simp [c2]) (Ev.bind (put_ev m p[i] (by omega)) ?_)
     rw [if_pos ⟨c1, c2⟩]
     exact ih (i + 1) x7 (putS m p[i]) (by omega) h7 (by rw [putS_len]; omega)
 have k0 : ∀ j i (x7 : List Int), i + j = b.length → x7.length ≤ i → Ev (fun k => treemergeref32_Kept.l0 k b p q x7 (i : Int)) (ref0 p q (b.drop i) x7 ++ refM b (p ++ q) []) := by
  intro j
  induction j with
  | zero =>
   intro i x7 hi h7
   refine Ev.step (fun k => by rw [treemergeref32_Kept.l0]) (Ev.neg (by omega) ?_)
   rw [List.drop_of_length_le (by omega), ref0]
   exact k1 p.length 0 x7 [] (by omega) (by omega) (by simp)
  | succ j ih =>
   intro i x7 hi h7
   have h1 : i < b.length := by omega
   refine Ev.step (fun k => by rw [treemergeref32_Kept.l0]) (Ev.pos (by omega) (Ev.pos (by omega) ?_))
   rw [rd_at h1, List.drop_eq_getElem_cons h1, wrap_up h1 (by omega), ref0]
   refine Ev.bind (has_ev p b[i] (by omega)) ?_
   by_cases c1 : b[i] ∈ p
   ·refine Ev.pos (by simp [c1]) (Ev.bind (has_ev q b[i] (by omega)) ?_)
    by_cases c2 : b[i] ∈ q
    ·refine Ev.pos (by simp [c2]) (Ev.bind (has_ev x7 b[i] (by omega)) ?_)
     by_cases c3 : b[i] ∈ x7
     ·refine Ev.pos (by simp [c3]) ?_
      rw [if_neg (fun h => h.2.2 c3)]
      exact ih (i + 1) x7 (by omega) (by omega)
     ·refine Ev.neg (by simp [c3]) (Ev.pos (by omega) ?_)
      rw [if_pos ⟨c1, c2, c3⟩]
      exact ih (i + 1) (x7 ++ [b[i]]) (by omega) (by simp; omega)
    ·refine Ev.neg (by simp [c2]) ?_
     rw [if_neg (fun h => c2 h.2.1)]
     exact ih (i + 1) x7 (by omega) (by omega)
   ·refine Ev.neg (by simp [c1]) ?_
    rw [if_neg (fun h => c1 h.1)]
    exact ih (i + 1) x7 (by omega) (by omega)
 exact k0 b.length 0 [] (by omega) (by simp)

/- The reference's parts between stable elements, and its sorted lists (chapter 32). -/

def prt (lo hi : Option Int) : List Int → Bool → List Int → List Int
 | [], _, out => out
 | x :: l, op, out => if hi = some x then out else prt lo hi l (if lo = some x then true else op) (if op = true then out ++ [x] else out)
def tw (hi : Option Int) : List Int → List Int
 | [] => []
 | x :: l => if hi = some x then [] else x :: tw hi l
theorem prt_open (lo hi : Option Int) : ∀ (l out : List Int), prt lo hi l true out = out ++ tw hi l
 | [], out => by simp [prt, tw]
 | x :: l, out => by
  rw [prt, tw]
  by_cases h : hi = some x
  ·rw [if_pos h, if_pos h, List.append_nil]
  ·rw [if_neg h, if_neg h, show (if lo = some x then true else true) = true by split <;> rfl, if_pos rfl, prt_open lo hi l]
   simp
theorem cuts_zero (s : List Int) : ∀ (l last o : List Int), o.Sublist l → l.Nodup → (∀ x ∈ l, x ∈ s ↔ x ∈ o) → (cutsA s l [] last).getD 0 [] = last ++ tw (o[0]?) l
 | [], last, o, h, _, _ => by simp [cutsA, tw]
 | x :: l, last, o, h, hn, hs => by
  have hx : x ∉ l := (List.nodup_cons.1 hn).1
  have hl := (List.nodup_cons.1 hn).2
  rw [cutsA]
  by_cases c : x ∈ s
  ·have hxo := (hs x List.mem_cons_self).1 c
   cases h with
   | cons _ h => exact absurd (h.subset hxo) hx
   | cons_cons _ h =>
    rename_i o'
    rw [if_pos c, cutsA_done]
    simp [tw]
  ·have hxo : x ∉ o := fun g => c ((hs x List.mem_cons_self).2 g)
   have h' : o.Sublist l := by
    cases h with
    | cons _ h => exact h
    | cons_cons _ h => exact absurd List.mem_cons_self hxo
   rw [if_neg c, cuts_zero s l (last ++ [x]) o h' hl (fun y hy => hs y (List.mem_cons_of_mem _ hy)), tw, if_neg (fun e => hxo (List.mem_of_getElem? e))]
   simp
theorem cuts_succ (s : List Int) : ∀ (l last o : List Int) (t : Nat), o.Sublist l → l.Nodup → (∀ x ∈ l, x ∈ s ↔ x ∈ o) → t < o.length → (cutsA s l [] last).getD (t + 1) [] = prt (o[t]?) (o[t + 1]?) l false []
 | [], last, o, t, h, _, _, ht => by
  have : o = [] := List.eq_nil_of_sublist_nil h
  subst this
  simp at ht
 | x :: l, last, o, t, h, hn, hs, ht => by
  have hx : x ∉ l := (List.nodup_cons.1 hn).1
  have hl := (List.nodup_cons.1 hn).2
  rw [cutsA]
  by_cases c : x ∈ s
  ·have hxo := (hs x List.mem_cons_self).1 c
   cases h with
   | cons _ h => exact absurd (h.subset hxo) hx
   | cons_cons _ h =>
    rename_i o'
    have hs' : ∀ y ∈ l, y ∈ s ↔ y ∈ o' := fun y hy => by
     rw [hs y (List.mem_cons_of_mem _ hy), List.mem_cons]
     exact ⟨fun g => g.resolve_left (fun e => hx (e ▸ hy)), .inr⟩
    have hne : ∀ i : Nat, o'[i]? ≠ some x := fun i e => hx (h.subset (List.mem_of_getElem? e))
    rw [if_pos c, cutsA_done]
    show (last :: cutsA s l [] []).getD (t + 1) [] = _
    rw [List.getD_cons_succ, prt, List.getElem?_cons_succ, if_neg (hne t)]
    simp only [Bool.false_eq_true, if_false]
    cases t with
    | zero => rw [cuts_zero s l [] o' h hl hs', List.getElem?_cons_zero, if_pos rfl, prt_open]
    | succ t => rw [cuts_succ s l [] o' t h hl hs' (by rw [List.length_cons] at ht; omega), List.getElem?_cons_succ, if_neg (hne t)]
  ·have hxo : x ∉ o := fun g => c ((hs x List.mem_cons_self).2 g)
   have h' : o.Sublist l := by
    cases h with
    | cons _ h => exact h
    | cons_cons _ h => exact absurd List.mem_cons_self hxo
   have hne : ∀ i : Nat, o[i]? ≠ some x := fun i e => hxo (List.mem_of_getElem? e)
   rw [if_neg c, cuts_succ s l (last ++ [x]) o t h' hl (fun y hy => hs y (List.mem_cons_of_mem _ hy)) ht, prt, if_neg (hne _), if_neg (hne _), if_neg (by decide)]
/-- What the reference's part is. -/
def partS (l s : List Int) (t : Nat) : List Int := prt (if t = 0 then none else s[t - 1]?) (s[t]?) l (decide (t = 0)) []
theorem partS_cuts {l s : List Int} (hl : l.Nodup) (hs : s.Sublist l) {t : Nat} (ht : t ≤ s.length) : partS l s t = (cutsS s l).getD t [] := by
 unfold partS cutsS
 cases t with
 | zero => rw [cuts_zero s l [] s hs hl (fun _ _ => Iff.rfl), if_pos rfl, show decide ((0 : Nat) = 0) = true from rfl, prt_open]
 | succ t => rw [cuts_succ s l [] s t hs hl (fun _ _ => Iff.rfl) (by omega), if_neg (by omega), show decide (t + 1 = 0) = false from rfl, Nat.add_sub_cancel]

/-- The elements that are stable. -/
def stS (b : List Int) (x y : List S71) : List Int := x.flatMap fun p => (y.filter fun q => decide (p.f0 = q.f0)).map fun _ => rd b p.f0
theorem st_one {b r : List Int} (hn : b.Nodup) {i0 : Nat} (hi : i0 < b.length) : ∀ {y : List S71} {i k : Nat}, Sub b r i k y → (y.filter fun q => decide ((i0 : Int) = q.f0)).map (fun _ => b[i0]) = if b[i0] ∈ oldsOf b y then [b[i0]] else []
 | [], _, _, _ => by simp [oldsOf]
 | q :: y, i, k, h => by
  obtain ⟨i', k', rfl, g1, g2, g3, g4, g5, g6⟩ := h
  have ih := st_one hn hi g6
  have e0 : oldsOf b (⟨(i' : Int), (k' : Int)⟩ :: y) = b[i'] :: oldsOf b y := by rw [← rd_at g3]; rfl
  rw [e0]
  by_cases c : i0 = i'
  ·subst c
   have hz : (y.filter fun q => decide ((i0 : Int) = q.f0)) = [] := by
    rw [List.filter_eq_nil_iff]
    intro q hq
    obtain ⟨i2, k2, rfl, l1, _⟩ := g6.range q hq
    simp
    omega
   rw [List.filter_cons_of_pos (by simp), hz, if_pos List.mem_cons_self]
   rfl
  ·have hne : b[i0] ≠ b[i'] := fun e => c (nodup_get hn hi g3 e)
   rw [List.filter_cons_of_neg (by simp; omega), ih]
   by_cases d : b[i0] ∈ oldsOf b y
   ·rw [if_pos d, if_pos (List.mem_cons_of_mem _ d)]
   ·rw [if_neg d, if_neg (by rw [List.mem_cons]; exact fun h => h.elim hne d)]
theorem stS_eq {b l r : List Int} (hn : b.Nodup) {y : List S71} (hy : Sub b r 0 0 y) : ∀ {x : List S71} {i k : Nat}, Sub b l i k x → stS b x y = divOrder b y x
 | [], _, _, _ => rfl
 | p :: x, i, k, h => by
  obtain ⟨i', k', rfl, g1, g2, g3, g4, g5, g6⟩ := h
  have ih := stS_eq hn hy g6
  unfold stS divOrder at ih ⊢
  have e0 : oldsOf b (⟨(i' : Int), (k' : Int)⟩ :: x) = b[i'] :: oldsOf b x := by rw [← rd_at g3]; rfl
  rw [List.flatMap_cons, ih, e0]
  have h1 := st_one hn g3 hy
  rw [← rd_at g3] at h1 ⊢
  dsimp only
  rw [h1]
  by_cases c : rd b (i' : Int) ∈ oldsOf b y
  ·rw [if_pos c, List.filter_cons_of_pos (by simpa using c)]
   rfl
  ·rw [if_neg c, List.filter_cons_of_neg (by simpa using c)]
   rfl

/-- A sorted list with another element. -/
def insS (ks : List ByteArray) : List Int → Int → List Int
 | [], x => [x]
 | y :: l, x => if ltK ks x y = true then x :: y :: l else y :: insS ks l x
theorem insS_mem (ks : List ByteArray) : ∀ (l : List Int) (x y : Int), y ∈ insS ks l x ↔ y = x ∨ y ∈ l
 | [], x, y => by simp [insS]
 | a :: l, x, y => by
  rw [insS]
  by_cases h : ltK ks x a = true
  ·rw [if_pos h, List.mem_cons]
  ·rw [if_neg h, List.mem_cons, insS_mem ks l x y, List.mem_cons]
   constructor
   ·rintro (h | h | h)
    ·exact .inr (.inl h)
    ·exact .inl h
    ·exact .inr (.inr h)
   ·rintro (h | h | h)
    ·exact .inr (.inl h)
    ·exact .inl h
    ·exact .inr (.inr h)
theorem insS_len (ks : List ByteArray) : ∀ (l : List Int) (x : Int), (insS ks l x).length = l.length + 1
 | [], x => rfl
 | a :: l, x => by
  rw [insS]
  by_cases h : ltK ks x a = true
  ·rw [if_pos h]; simp
  ·rw [if_neg h]; simp [insS_len ks l x]
theorem insS_nodup (ks : List ByteArray) : ∀ (l : List Int) (x : Int), l.Nodup → x ∉ l → (insS ks l x).Nodup
 | [], x, _, _ => by simp [insS]
 | a :: l, x, h, hn => by
  rw [insS]
  have ha : a ≠ x := fun e => hn (by simp [e])
  have hc := List.nodup_cons.1 h
  by_cases c : ltK ks x a = true
  ·rw [if_pos c]
   exact List.nodup_cons.2 ⟨hn, h⟩
  ·rw [if_neg c]
   refine List.nodup_cons.2 ⟨fun e => ?_, insS_nodup ks l x hc.2 (fun e => hn (List.mem_cons_of_mem _ e))⟩
   rcases (insS_mem ks l x a).1 e with e | e
   ·exact ha e
   ·exact hc.1 e
theorem insS_sorted (ks : List ByteArray) : ∀ (l : List Int) (x : Int), l.Pairwise (fun x y => ltK ks y x = false) → (insS ks l x).Pairwise (fun x y => ltK ks y x = false)
 | [], x, _ => by simp [insS]
 | a :: l, x, h => by
  have hO := swo_ltK ks
  rw [insS]
  have hc := List.pairwise_cons.1 h
  by_cases c : ltK ks x a = true
  ·rw [if_pos c]
   refine List.pairwise_cons.2 ⟨fun y hy => ?_, h⟩
   have hxa : ltK ks a x = false := by
    cases e : ltK ks a x with
    | false => rfl
    | true =>
     have := hO.trans _ _ _ c e
     rw [hO.irrefl] at this
     cases this
   rcases List.mem_cons.1 hy with rfl | hy
   ·exact hxa
   ·exact hO.ntrans _ _ _ (hc.1 y hy) hxa
  ·rw [if_neg c]
   refine List.pairwise_cons.2 ⟨fun y hy => ?_, insS_sorted ks l x hc.2⟩
   rcases (insS_mem ks l x y).1 hy with rfl | hy
   ·simpa using c
   ·exact hc.1 y hy
def insL (ks : List ByteArray) (base : List Int) : List Int → List Int → List Int
 | [], m => m
 | a :: l, m => insL ks base l (if a ∉ base then (if a ∈ m then m else insS ks m a) else m)
theorem insL_append (ks : List ByteArray) (base : List Int) : ∀ (l l' m : List Int), insL ks base (l ++ l') m = insL ks base l' (insL ks base l m)
 | [], l', m => rfl
 | a :: l, l', m => by rw [List.cons_append, insL, insL, insL_append ks base l l']
theorem insL_inv (ks : List ByteArray) (base : List Int) : ∀ (l m : List Int), m.Nodup → m.Pairwise (fun x y => ltK ks y x = false) → (insL ks base l m).Nodup ∧ (insL ks base l m).Pairwise (fun x y => ltK ks y x = false) ∧ ∀ x, x ∈ insL ks base l m ↔ x ∈ m ∨ (x ∈ l ∧ x ∉ base)
 | [], m, h, g => ⟨h, g, fun x => by simp [insL]⟩
 | a :: l, m, h, g => by
  rw [insL]
  by_cases c : a ∉ base
  ·rw [if_pos c]
   by_cases d : a ∈ m
   ·rw [if_pos d]
    obtain ⟨h1, h2, h3⟩ := insL_inv ks base l m h g
    refine ⟨h1, h2, fun x => ?_⟩
    rw [h3, List.mem_cons]
    constructor
    ·rintro (q | ⟨q, q'⟩)
     ·exact .inl q
     ·exact .inr ⟨.inr q, q'⟩
    ·rintro (q | ⟨rfl | q, q'⟩)
     ·exact .inl q
     ·exact .inl d
     ·exact .inr ⟨q, q'⟩
   ·rw [if_neg d]
    obtain ⟨h1, h2, h3⟩ := insL_inv ks base l (insS ks m a) (insS_nodup ks m a h d) (insS_sorted ks m a g)
    refine ⟨h1, h2, fun x => ?_⟩
    rw [h3, insS_mem, List.mem_cons]
    constructor
    ·rintro ((rfl | q) | ⟨q, q'⟩)
     ·exact .inr ⟨.inl rfl, c⟩
     ·exact .inl q
     ·exact .inr ⟨.inr q, q'⟩
    ·rintro (q | ⟨rfl | q, q'⟩)
     ·exact .inl (.inr q)
     ·exact .inl (.inl rfl)
     ·exact .inr ⟨q, q'⟩
  ·rw [if_neg c]
   obtain ⟨h1, h2, h3⟩ := insL_inv ks base l m h g
   refine ⟨h1, h2, fun x => ?_⟩
   rw [h3, List.mem_cons]
   constructor
   ·rintro (q | ⟨q, q'⟩)
    ·exact .inl q
    ·exact .inr ⟨.inr q, q'⟩
   ·rintro (q | ⟨rfl | q, q'⟩)
    ·exact .inl q
    ·exact absurd q' c
    ·exact .inr ⟨q, q'⟩
theorem insL_len (ks : List ByteArray) (base : List Int) : ∀ (l m : List Int), (insL ks base l m).length ≤ m.length + l.length
 | [], m => by simp [insL]
 | a :: l, m => by
  rw [insL]
  have := insL_len ks base l (if a ∉ base then (if a ∈ m then m else insS ks m a) else m)
  have h2 : (if a ∉ base then (if a ∈ m then m else insS ks m a) else m).length ≤ m.length + 1 := by
   split
   ·split
    ·omega
    ·rw [insS_len]; omega
   ·omega
  simp only [List.length_cons]
  omega
theorem insL_sortK (ks : List ByteArray) (base l r : List Int) : insL ks base (l ++ r) [] = sortK ks (keptN base (onceS (l ++ r)) []) := by
 obtain ⟨h1, h2, h3⟩ := insL_inv ks base (l ++ r) [] List.nodup_nil List.Pairwise.nil
 refine (sortK_eq ?_ h2).symm
 rw [keptN_eq, List.nil_append]
 refine (List.perm_ext_iff_of_nodup ((once_nodup _).filter _) h1).2 fun x => ?_
 rw [h3]
 simp only [List.mem_filter, once_mem, List.mem_append, decide_eq_true_eq, List.not_mem_nil, false_or]
def putN (b : List Int) : List Int → List Int → List Int
 | [], m => m
 | a :: l, m => putN b l (if a ∉ b then putS m a else m)
theorem putN_refM (b : List Int) : ∀ (l m : List Int), l.Nodup → (∀ x ∈ l, x ∉ m) → putN b l m = refM b l m
 | [], m, _, _ => rfl
 | a :: l, m, hn, h => by
  have ha := h a List.mem_cons_self
  have hc := List.nodup_cons.1 hn
  rw [putN, refM]
  by_cases c : a ∉ b
  ·rw [if_pos c, if_pos ⟨c, ha⟩]
   refine putN_refM b l _ hc.2 (fun x hx e => ?_)
   rcases (putS_mem m a x).1 e with rfl | e
   ·exact hc.1 hx
   ·exact h x (List.mem_cons_of_mem _ hx) e
  ·rw [if_neg c, if_neg (fun q => c q.1)]
   exact putN_refM b l m hc.2 (fun x hx => h x (List.mem_cons_of_mem _ hx))
theorem putN_sorted (b : List Int) {l : List Int} (hn : l.Nodup) : b ++ putN b l [] = keptN b (sortI l) b := by
 rw [keptN_eq, putN_refM b l [] hn (fun _ _ => by simp)]
 congr 1
 obtain ⟨h1, _, h3⟩ := refM_inv b l [] List.Pairwise.nil
 refine ext_sorted h1 ((sortI_lt hn).filter _) (fun x => ?_)
 rw [h3, List.mem_filter, sortI_mem]
 simp
theorem putN_len (b : List Int) : ∀ (l m : List Int), (putN b l m).length ≤ m.length + l.length
 | [], m => by simp [putN]
 | a :: l, m => by
  rw [putN]
  have := putN_len b l (if a ∉ b then putS m a else m)
  have h2 : (if a ∉ b then putS m a else m).length ≤ m.length + 1 := by
   split
   ·rw [putS_len]; omega
   ·omega
  simp only [List.length_cons]
  omega
/- The lists of keys that the laws take (chapter 32). -/

theorem short_of (a b c : List Int) : treemergelaw32_short.f a b c = some (decide (a.length ≤ 30 ∧ b.length ≤ 30 ∧ c.length ≤ 30)) := by
 unfold treemergelaw32_short.f
 by_cases h1 : a.length ≤ 30
 ·rw [if_pos (by omega)]
  by_cases h2 : b.length ≤ 30
  ·rw [if_pos (by omega)]
   congr 1
   exact decide_eq_decide.2 (by omega)
  ·rw [if_neg (by omega)]
   simp [h2]
 ·rw [if_neg (by omega)]
  simp [h1]

theorem short3_ev (l : List ByteArray) (m n : Int) (hm : m ≤ 1000) : ∃ b, Ev (fun k => treemergeref03_Short.f k l m n) b := by
 unfold treemergeref03_Short.f
 by_cases h : (l.length : Int) > m
 ·exact ⟨false, Ev.pos h (Ev.now _)⟩
 ·have key : ∀ d i, i + d = l.length → ∃ b, Ev (fun k => treemergeref03_Short.l0 k l n (i : Int)) b := by
   intro d
   induction d with
   | zero =>
    intro i hi
    exact ⟨true, Ev.step (fun k => by rw [treemergeref03_Short.l0]) (Ev.neg (by omega) (Ev.now _))⟩
   | succ d ih =>
    intro i hi
    obtain ⟨b, hb⟩ := ih (i + 1) (by omega)
    by_cases c : ((rdOf ByteArray.empty l (i : Int)).size : Int) > n
    ·exact ⟨false, Ev.step (fun k => by rw [treemergeref03_Short.l0]) (Ev.pos (by omega) (Ev.pos (by omega) (Ev.pos c (Ev.now _))))⟩
    ·refine ⟨b, Ev.step (fun k => by rw [treemergeref03_Short.l0]) (Ev.pos (by omega) (Ev.pos (by omega) (Ev.neg c ?_)))⟩
     rw [wrap_up (i := i) (n := l.length) (by omega) (by omega)]
     exact hb
  obtain ⟨b, hb⟩ := key l.length 0 (by omega)
  exact ⟨b, Ev.neg h hb⟩
/- The reference's list without repetitions (chapter 32). -/

theorem once_ev (l : List Int) (hl : l.length ≤ 100000) : Ev (fun k => treemergeref32_Once.f k l) (onceS l) := by
 have key : ∀ d i (out : List Int), i + d = l.length → out.length ≤ i → Ev (fun k => treemergeref32_Once.l0 k l out (i : Int)) (onceL (l.drop i) out) := by
  intro d
  induction d with
  | zero =>
   intro i out hi ho
   refine Ev.step (fun k => by rw [treemergeref32_Once.l0]) (Ev.neg (by omega) ?_)
   rw [List.drop_of_length_le (by omega), onceL]
   exact Ev.now _
  | succ d ih =>
   intro i out hi ho
   have h1 : i < l.length := by omega
   refine Ev.step (fun k => by rw [treemergeref32_Once.l0]) (Ev.pos (by omega) (Ev.pos (by omega) ?_))
   rw [rd_at h1, List.drop_eq_getElem_cons h1, onceL, wrap_up h1 (by omega)]
   refine (has_ev out l[i] (by omega)).bind ?_
   by_cases c : l[i] ∈ out
   ·refine Ev.pos (by simp [c]) ?_
    rw [if_pos c]
    exact ih (i + 1) out (by omega) (by omega)
   ·refine Ev.neg (by simp [c]) (Ev.pos (by omega) ?_)
    rw [if_neg c]
    exact ih (i + 1) (out ++ [l[i]]) (by omega) (by simp; omega)
 exact key l.length 0 [] (by omega) (by simp)
end Go.Proofs.Ytdbgdkbpamekpaa.Pure
