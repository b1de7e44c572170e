/- Lists in order, sets of elements, and what the reference's small loops answer (chapter 32). -/
import Derived.Test.YtdbgdkbpamekpaaQ0
import Derived.Test.YtdbgdkbpamekpaaQ1
import Derived.Test.YtdbgdkbpamekpaaQ2
import Derived.Test.YtdbgdkbpamekpaaQ3
import Derived.Test.YtdbgdkbpamekpaaQ4
import Derived.Test.YtdbgdkbpamekpaaQ5
import Derived.Test.YtdbgdkbpamekpaaQ6
import Derived.Test.YtdbgdkbpamekpaaQ7
import Derived.Test.YtdbgdkbpamekpaaQ8
import Derived.Test.YtdbgdkbpamekpaaQ9
import Derived.Test.YtdbgdkbpamekpaaQ10
import Derived.Test.YtdbgdkbpamekpaaQ11
import Derived.Test.YtdbgdkbpamekpaaQ12
import Derived.Test.YtdbgdkbpamekpaaQ13
import Derived.Test.YtdbgdkbpamekpaaQ14
namespace Go.Proofs.Ytdbgdkbpamekpaa.Pure
set_option linter.unusedVariables false
open Go.RowKit Go.Proofs.Ytdbgdkbpamekpaa.Q Go.Proofs.YtdbgdkbpamekpaaW.PrintWords Go.Proofs.YtdbgdkbpamekpaaW.PrintLast

theorem wrap_up {i n : Nat} (h : i < n) (hn : n ≤ 140737488351232) : wrap64 ((i : Int) + 1) = ((i + 1 : Nat) : Int) := by
 unfold wrap64
 omega
theorem Ev.pos {α : Type} {c : Prop} [Decidable c] {A B : Nat → Option α} {r : α} (h : c) (k : Ev A r) : Ev (fun n => if c then A n else B n) r := by simpa only [if_pos h] using k
theorem Ev.neg {α : Type} {c : Prop} [Decidable c] {A B : Nat → Option α} {r : α} (h : ¬ c) (k : Ev B r) : Ev (fun n => if c then A n else B n) r := by simpa only [if_neg h] using k
theorem Ev.cast {α : Type} {g : Nat → Option α} {r r' : α} (h : r = r') (k : Ev g r) : Ev g r' := h ▸ k
theorem Ev.known {α β : Type} {o : Option α} {f : Nat → α → Option β} {a : α} {r : β} (h : o = some a) (k : Ev (fun n => f n a) r) : Ev (fun n => o.bind (f n)) r := by subst h; exact k
theorem Ev.up {α : Type} {g : Nat → Option α} {r : α} {K : Nat} (hm : ∀ k, LeO (g k) (g (k + 1))) (h : g K = some r) : Ev g r := by
 refine ⟨K, fun k hk => ?_⟩
 induction k with
 | zero =>
  have : K = 0 := by omega
  subst this
  exact h
 | succ k ih =>
  rcases Nat.lt_or_ge k K with c | c
  ·have : K = k + 1 := by omega
   subst this
   exact h
  ·exact hm k r (ih c)
theorem rd_at {l : List Int} {i : Nat} (h : i < l.length) : rd l (i : Int) = l[i] := by simp [rd, List.getD_eq_getElem?_getD, List.getElem?_eq_getElem h]

/-! ### Lists in order -/
theorem ext_sorted {l m : List Int} (hl : l.Pairwise (· < ·)) (hm : m.Pairwise (· < ·)) (h : ∀ x, x ∈ l ↔ x ∈ m) : l = m := by
 have nl : l.Nodup := hl.imp (fun h e => by subst e; exact absurd h (Int.lt_irrefl _))
 have nm : m.Nodup := hm.imp (fun h e => by subst e; exact absurd h (Int.lt_irrefl _))
 exact ((List.perm_ext_iff_of_nodup nl nm).2 h).eq_of_pairwise (le := (· < ·)) (fun a b _ _ h1 h2 => absurd h1 (Int.lt_asymm h2)) hl hm
theorem sortI_perm (l : List Int) : (sortI l).Perm l := List.mergeSort_perm _ _
theorem sortI_mem (l : List Int) (x : Int) : x ∈ sortI l ↔ x ∈ l := (sortI_perm l).mem_iff
theorem sortI_le (l : List Int) : (sortI l).Pairwise (· ≤ ·) := by
 have := List.pairwise_mergeSort (le := fun x y : Int => decide (x ≤ y)) (fun a b c h1 h2 => by simp at *; omega) (fun a b => by simp; omega) l
 exact this.imp (fun h => by simpa using h)
theorem sortI_lt {l : List Int} (hn : l.Nodup) : (sortI l).Pairwise (· < ·) := by
 have n2 : (sortI l).Nodup := (sortI_perm l).nodup_iff.2 hn
 have := (sortI_le l).and n2
 exact this.imp (fun h => by have := h.1; have := h.2; omega)
theorem sortI_eq {l m : List Int} (hp : l.Perm m) (hm : m.Pairwise (· ≤ ·)) : sortI l = m :=
 ((sortI_perm l).trans hp).eq_of_pairwise (le := (· ≤ ·)) (fun a b _ _ h1 h2 => Int.le_antisymm h1 h2) (sortI_le l) hm
theorem sortI_congr {l m : List Int} (hp : l.Perm m) : sortI l = sortI m := sortI_eq (hp.trans (sortI_perm m).symm) (sortI_le m)

/-! ### First occurrences -/
theorem onceL_inv : ∀ (l out : List Int), out.Nodup → (onceL l out).Nodup ∧ ∀ x, x ∈ onceL l out ↔ x ∈ out ∨ x ∈ l
 | [], out, hn => ⟨hn, fun x => by simp [onceL]⟩
 | a :: l, out, hn => by
  rw [onceL]
  by_cases h : a ∈ out
  ·rw [if_pos h]
   obtain ⟨h1, h2⟩ := onceL_inv l out hn
   refine ⟨h1, fun x => ?_⟩
   rw [h2, List.mem_cons]
   constructor
   ·rintro (h | h)
    ·exact .inl h
    ·exact .inr (.inr h)
   ·rintro (h' | rfl | h')
    ·exact .inl h'
    ·exact .inl h
    ·exact .inr h'
  ·rw [if_neg h]
   obtain ⟨h1, h2⟩ := onceL_inv l (out ++ [a]) (List.nodup_append.2 ⟨hn, by simp, fun x hx y hy => by simp at hy; subst hy; exact fun e => h (e ▸ hx)⟩)
   refine ⟨h1, fun x => ?_⟩
   rw [h2]
   simp only [List.mem_append, List.mem_cons, List.not_mem_nil, or_false]
   exact or_assoc
theorem once_nodup (l : List Int) : (onceS l).Nodup := (onceL_inv l [] List.nodup_nil).1
theorem once_mem (l : List Int) (x : Int) : x ∈ onceS l ↔ x ∈ l := by rw [onceS, (onceL_inv l [] List.nodup_nil).2]; simp
theorem onceL_of_nodup : ∀ (l out : List Int), (out ++ l).Nodup → onceL l out = out ++ l
 | [], out, _ => by simp [onceL]
 | a :: l, out, h => by
  have hn : a ∉ out := fun ha => (List.nodup_append.1 h).2.2 a ha a List.mem_cons_self rfl
  rw [onceL, if_neg hn, onceL_of_nodup l (out ++ [a]) (by simpa using h)]
  simp
theorem once_of_nodup {l : List Int} (h : l.Nodup) : onceS l = l := by rw [onceS, onceL_of_nodup l [] (by simpa using h)]; rfl
theorem keptN_eq (b : List Int) : ∀ (l out : List Int), keptN b l out = out ++ l.filter (fun x => decide (x ∉ b))
 | [], out => by simp [keptN]
 | a :: l, out => by
  rw [keptN, keptN_eq b l]
  by_cases h : a ∈ b <;> simp [h]
theorem keptA_eq (p q : List Int) : ∀ (l out : List Int), keptA p q l out = out ++ l.filter (fun x => decide (x ∈ p ∧ x ∈ q))
 | [], out => by simp [keptA]
 | a :: l, out => by
  rw [keptA, keptA_eq p q l]
  by_cases h : a ∈ p ∧ a ∈ q
  ·rw [if_pos h, List.filter_cons_of_pos (by simpa using h)]
   simp
  ·rw [if_neg h, List.filter_cons_of_neg (by simpa using h)]
theorem keepL_eq (b : List Int) : ∀ (l out : List Int), keepL b l out = out ++ l.filter (fun x => decide (x ∈ b))
 | [], out => by simp [keepL]
 | a :: l, out => by
  rw [keepL, keepL_eq b l]
  by_cases h : a ∈ b <;> simp [h]
theorem keptS_eq (b p q : List Int) : keptS b p q = (onceS b).filter (fun x => decide (x ∈ p ∧ x ∈ q)) ++ sortI ((onceS (p ++ q)).filter (fun x => decide (x ∉ b))) := by
 rw [keptS, keptA_eq, keptN_eq]
 rfl
theorem kept_mem (b p q : List Int) (x : Int) : x ∈ keptS b p q ↔ (x ∈ b ∧ x ∈ p ∧ x ∈ q) ∨ (x ∉ b ∧ (x ∈ p ∨ x ∈ q)) := by
 rw [keptS_eq, List.mem_append, sortI_mem]
 simp only [List.mem_filter, once_mem, List.mem_append, decide_eq_true_eq]
 constructor
 ·rintro (h | h)
  ·exact .inl h
  ·exact .inr ⟨h.2, h.1⟩
 ·rintro (h | h)
  ·exact .inl h
  ·exact .inr ⟨h.2, h.1⟩
theorem kept_nodup (b p q : List Int) : (keptS b p q).Nodup := by
 rw [keptS_eq]
 refine List.nodup_append.2 ⟨(once_nodup b).filter _, (sortI_perm _).nodup_iff.2 ((once_nodup _).filter _), fun x hx y hy e => ?_⟩
 subst e
 rw [sortI_mem] at hy
 simp only [List.mem_filter, once_mem, decide_eq_true_eq] at hx hy
 exact hy.2 hx.1
theorem kept_swap (b p q : List Int) : keptS b p q = keptS b q p := by
 rw [keptS_eq, keptS_eq]
 congr 1
 ·congr 1
  funext x
  exact decide_eq_decide.2 And.comm
 ·refine sortI_congr ((List.perm_ext_iff_of_nodup ((once_nodup _).filter _) ((once_nodup _).filter _)).2 fun x => ?_)
  simp only [List.mem_filter, once_mem, List.mem_append, decide_eq_true_eq]
  constructor <;> rintro ⟨h, h2⟩ <;> exact ⟨h.symm, h2⟩

/-! ### The reference's loops -/
theorem equal_ev (a b : List Int) (hn : a.length ≤ 140737488351232) : Ev (fun k => treemergeref32_Equal.f k a b) (decide (a = b)) := by
 unfold treemergeref32_Equal.f
 by_cases hl : a.length = b.length
 ·refine Ev.pos (by omega) ?_
  have key : ∀ j i, i + j = a.length → Ev (fun k => treemergeref32_Equal.l0 k a b (i : Int)) (decide (a.drop i = b.drop i)) := by
   intro j
   induction j with
   | zero =>
    intro i hi
    refine Ev.step (fun k => by rw [treemergeref32_Equal.l0]) (Ev.neg (by omega) ?_)
    rw [List.drop_of_length_le (by omega), List.drop_of_length_le (by omega)]
    exact Ev.cast (by simp) (Ev.now _)
   | succ j ih =>
    intro i hi
    have h1 : i < a.length := by omega
    have h2 : i < b.length := by omega
    refine Ev.step (fun k => by rw [treemergeref32_Equal.l0]) (Ev.pos (by omega) (Ev.pos (by omega) (Ev.pos (by omega) ?_)))
    rw [rd_at h1, rd_at h2, List.drop_eq_getElem_cons h1, List.drop_eq_getElem_cons h2, wrap_up h1 hn]
    by_cases h : a[i] = b[i]
    ·refine Ev.pos h (Ev.cast ?_ (ih (i + 1) (by omega)))
     simp only [List.cons.injEq, h, true_and]
    ·refine Ev.neg h (Ev.cast ?_ (Ev.now _))
     simp only [List.cons.injEq, h, false_and, decide_false]
  have := key a.length 0 (by omega)
  exact this
 ·refine Ev.neg (by omega) (Ev.cast ?_ (Ev.now _))
  have : a ≠ b := fun h => hl (by rw [h])
  simp [this]
theorem equal_self {a b : List Int} (hn : a.length ≤ 140737488351232) (h : a = b) : Ev (fun k => treemergeref32_Equal.f k a b) true := Ev.cast (by simp [h]) (equal_ev a b hn)

/- The reference's membership (chapter 32). -/

theorem has_ev (l : List Int) (x : Int) (hn : l.length ≤ 140737488351232) : Ev (fun k => treemergeref32_Has.f k l x) (decide (x ∈ l)) := by
 have key : ∀ j i, i + j = l.length → Ev (fun k => treemergeref32_Has.l0 k l x (i : Int)) (decide (x ∈ l.drop i)) := by
  intro j
  induction j with
  | zero =>
   intro i hi
   refine Ev.step (fun k => by rw [treemergeref32_Has.l0]) (Ev.neg (by omega) ?_)
   rw [List.drop_of_length_le (by omega)]
   exact Ev.cast (by simp) (Ev.now _)
  | succ j ih =>
   intro i hi
   have h1 : i < l.length := by omega
   refine Ev.step (fun k => by rw [treemergeref32_Has.l0]) (Ev.pos (by omega) (Ev.pos (by omega) ?_))
   rw [rd_at h1, List.drop_eq_getElem_cons h1, wrap_up h1 hn]
   by_cases h : l[i] = x
   ·exact Ev.pos h (Ev.cast (by simp [h]) (Ev.now _))
   ·refine Ev.neg h (Ev.cast ?_ (ih (i + 1) (by omega)))
    exact decide_eq_decide.2 (by rw [List.mem_cons]; exact ⟨.inr, fun e => e.resolve_left (fun e => h e.symm)⟩)
 have := key l.length 0 (by omega)
 exact this

/- The chapter's examples: what the law's waking call answers (chapter 32). -/

theorem kept_of {b p q a m s : List Int} (h1 : keptA p q (onceS b) [] = a) (h2 : keptN b (onceS (p ++ q)) [] = m) (h3 : m.Perm s) (h4 : s.Pairwise (· ≤ ·)) : keptS b p q = a ++ s := by rw [keptS, h1, h2, sortI_eq h3 h4]
theorem kept1 : keptS [1, 2, 3] [1, 4, 2, 3] [1, 2, 3, 5] = [1, 2, 3, 4, 5] := kept_of (a := [1, 2, 3]) (m := [4, 5]) (by decide) (by decide) (List.Perm.refl _) (by decide)
theorem kept2 : keptS [1, 2] [1, 3, 2] [1, 4, 2] = [1, 2, 3, 4] := kept_of (a := [1, 2]) (m := [3, 4]) (by decide) (by decide) (List.Perm.refl _) (by decide)
theorem kept3 : keptS [3, 1] [1, 7] [5, 1] = [1, 5, 7] := kept_of (a := [1]) (m := [7, 5]) (by decide) (by decide) (List.Perm.swap _ _ _) (by decide)
theorem div_of {k : Nat} {b p q kp B P Q : List Int} {r : List Int × List P3} (hk : keptS b p q = kp) (hs : b.length ≤ 1000000 ∧ p.length ≤ 1000000 ∧ q.length ≤ 1000000) (h0 : keepL kp (onceS b) [] = B) (h1 : keepL kp (onceS p) [] = P) (h2 : keepL kp (onceS q) [] = Q)
  (h : ((lcs_Ints.f k B P).bind fun x => (lcs_Ints.f k B Q).bind fun y => divEnd B P Q x y) = some r) : sequence_divide.f k b p q = some r := by
 unfold sequence_divide.f divL
 rw [if_pos hs, hk, h0, h1, h2]
 exact h
theorem div1 : sequence_divide.f 40 [1, 2, 3] [1, 4, 2, 3] [1, 2, 3, 5] = some ([1, 2, 3], [⟨[], [], []⟩, ⟨[], [4], []⟩, ⟨[], [], []⟩, ⟨[], [], [5]⟩]) := div_of kept1 (by decide) (B := [1, 2, 3]) (P := [1, 4, 2, 3]) (Q := [1, 2, 3, 5]) (by decide) (by decide) (by decide) (by kernel_rfl)
theorem div2 : sequence_divide.f 40 [1, 2] [1, 3, 2] [1, 4, 2] = some ([1, 2], [⟨[], [], []⟩, ⟨[], [3], [4]⟩, ⟨[], [], []⟩]) := div_of kept2 (by decide) (B := [1, 2]) (P := [1, 3, 2]) (Q := [1, 4, 2]) (by decide) (by decide) (by decide) (by kernel_rfl)
theorem merge1 : sequence_Merge.f 40 [1, 2, 3] [1, 4, 2, 3] [1, 2, 3, 5] = some ([1, 4, 2, 3, 5], true) := by
 unfold sequence_Merge.f joinF
 rw [div1, kept1]
 kernel_rfl
theorem merge2 : sequence_Merge.f 40 [1, 2] [1, 3, 2] [1, 4, 2] = some ([], false) := by
 unfold sequence_Merge.f joinF
 rw [div2]
 kernel_rfl
theorem sortK_eq {ks : List ByteArray} {l m : List Int} (hp : l.Perm m) (hm : m.Pairwise (fun x y => ltK ks y x = false)) : sortK ks l = m := by
 have hO := swo_ltK ks
 have s1 : (sortK ks l).Pairwise (fun x y => ltK ks y x = false) := by
  have := List.pairwise_mergeSort (le := fun x y : Int => !ltK ks y x) (fun a b c h1 h2 => by
   simp only [Bool.not_eq_true'] at *
   exact hO.ntrans _ _ _ h2 h1) (fun a b => by
   cases h : ltK ks b a with
   | false => simp
   | true =>
    cases h2 : ltK ks a b with
    | false => simp
    | true =>
     have := hO.trans _ _ _ h h2
     rw [hO.irrefl] at this
     cases this) l
  exact this.imp (fun h => by simpa using h)
 exact ((List.mergeSort_perm _ _).trans hp).eq_of_pairwise (le := fun x y => ltK ks y x = false) (fun a b _ _ h1 h2 => anti_ltK ks a b h2 h1) s1 hm
theorem sort3 : sortK awkKeys [3, 4] = [4, 3] := sortK_eq (List.Perm.swap _ _ _) (by decide +kernel)
theorem join3 : joinF 40 (othS [1, 2] awkKeys) [1, 2] [1, 3, 2] [1, 4, 2] = some ([1, 4, 3, 2], true) := by
 unfold joinF
 rw [div2]
 have m1 : mgS (othS [1, 2] awkKeys) ⟨[], [], []⟩ = some [] := by kernel_rfl
 have m2 : mgS (othS [1, 2] awkKeys) ⟨[], [3], [4]⟩ = some [4, 3] := by
  have : mgS (othS [1, 2] awkKeys) ⟨[], [3], [4]⟩ = some ([] ++ sortK awkKeys [3, 4]) := by kernel_rfl
  rw [this, sort3]
  rfl
 simp [joinA, m1, m2, smallP]
theorem free3 : sequence_Free.f 40 [1, 2] [1, 3, 2] [1, 4, 2] awkKeys = some ([1, 4, 3, 2], false) := by
 unfold sequence_Free.f
 rw [merge2, join3, kept2, sortI_eq (List.Perm.refl [1, 2, 3, 4]) (by decide)]
 kernel_rfl
theorem awake_ev : Ev (fun k => treemergelaw32_awake.f k) true := by
 refine Ev.up (K := 40) treemergelaw32_awake.mono ?_
 unfold treemergelaw32_awake.f
 rw [if_pos ⟨merge1, merge2, free3, by rw [sequence_Kept.f, if_pos (by decide), kept3]⟩]
end Go.Proofs.Ytdbgdkbpamekpaa.Pure
