/- ChangeSides returns true: proved here by steps through the program's text; no condition but those that stand in each theorem. -/
import Derived.WalkSpells
import Derived.Test.YtcfjdehpbckomaaQ0
import Derived.Test.YtcfjdehpbckomaaQ9
import Derived.Test.YtcfjdehpbckomaaQ8
import Derived.Test.YtcfjdehpbckomaaQ7
import Derived.Test.YtcfjdehpbckomaaQ5
import Derived.Test.YtcfjdehpbckomaaQ6
namespace Go.Proofs.Ytcfjdehpbckomaa.Scratch
set_option linter.unusedVariables false
open Go.RowKit Go.Proofs.YtcfjdehpbckomaaW.PrintWords Go.Proofs.YtcfjdehpbckomaaW.PrintLast Go.Proofs.YtcfjdehpbckomaaW.PrintMore Go.Proofs.Ytcfjdehpbckomaa.Q
attribute [local go_sem] max2_int min2_int max_two min_two max_three min_three max_four min_four
theorem Ev.pos {α : Type} {c : Prop} [Decidable c] {A B : Nat → Option α} {r : α} (h : c) (k : Ev A r) : Ev (fun n => if c then A n else B n) r := by simpa only [if_pos h] using k
theorem Ev.neg {α : Type} {c : Prop} [Decidable c] {A B : Nat → Option α} {r : α} (h : ¬ c) (k : Ev B r) : Ev (fun n => if c then A n else B n) r := by simpa only [if_neg h] using k
theorem Ev.cast {α : Type} {g : Nat → Option α} {r r' : α} (h : r = r') (k : Ev g r) : Ev g r' := h ▸ k
theorem Ev.known {α β : Type} {o : Option α} {f : Nat → α → Option β} {a : α} {r : β} (h : o = some a) (k : Ev (fun n => f n a) r) : Ev (fun n => o.bind (f n)) r := by subst h; exact k
set_option maxRecDepth 100000 in
theorem awake_g : treemergelaw31_awake.g = some true := by decide +kernel
theorem awake_f : treemergelaw31_awake.f = some true := by unfold treemergelaw31_awake.f; rw [if_pos awake_g]
theorem awake_ev : Ev (fun _ => (treemergelaw31_awake.f).bind fun t => some t) true := by rw [awake_f]; exact Ev.now true
theorem wrap_up {i n : Nat} (h : i < n) (hn : n ≤ 140737488351232) : wrap64 ((i : Int) + 1) = ((i + 1 : Nat) : Int) := by unfold wrap64; omega
theorem rd_at {l : List Int} {i : Nat} (h : i < l.length) : rd l (i : Int) = l[i] := by simp [rd, List.getD_eq_getElem?_getD, List.getElem?_eq_getElem h]
theorem rd48_at {l : List S48} {i : Nat} (h : i < l.length) : rd_T48 l (i : Int) = l[i] := by simp [rd_T48, List.getD_eq_getElem?_getD, List.getElem?_eq_getElem h]
theorem same_loop (a b : List Int) (hab : a = b) (ha : a.length ≤ 1000000) : ∀ (d i : Nat), i + d = a.length → Ev (fun k => treemergelaw31_same.l0 k a b (i : Int)) true := by
  subst hab
  intro d
  induction d with
  | zero =>
    intro i hi
    exact Ev.step (fun k => by rw [treemergelaw31_same.l0]) (Ev.neg (by omega) (Ev.now true))
  | succ d ih =>
    intro i hi
    have h : i < a.length := by omega
    refine Ev.step (fun k => by rw [treemergelaw31_same.l0]) (Ev.pos (by omega) (Ev.pos (by omega) (Ev.pos (by omega) (Ev.pos rfl ?_))))
    rw [wrap_up h (by omega)]
    exact ih (i + 1) (by omega)
theorem same_ev (a b : List Int) (hab : a = b) (ha : a.length ≤ 1000000) : Ev (fun k => treemergelaw31_same.f k a b) true := by
  unfold treemergelaw31_same.f
  exact Ev.pos (by rw [hab]) (same_loop a b hab ha a.length 0 (by omega))

def clsh (c d : S48) : Bool := decide (c.f0 = d.f0) && ovl c.f1 d.f1
theorem insAsc_len (a : Int) : ∀ l : List Int, (insAsc a l).length ≤ l.length + 1
  | [] => by simp [insAsc]
  | b :: l => by
    rw [insAsc]
    split
    · simp
    · split
      · simp
      · have := insAsc_len a l
        simp only [List.length_cons]
        omega
def ovIn (c : S48) (y : List S48) (out : List Int) : List Int := y.foldl (fun o d => if clsh c d = true then insAsc c.f0 o else o) out
def ovOut (x y : List S48) (out : List Int) : List Int := x.foldl (fun o c => ovIn c y o) out
theorem ovIn_len (c : S48) : ∀ (y : List S48) (out : List Int), (ovIn c y out).length ≤ out.length + y.length
  | [], out => by simp [ovIn]
  | d :: y, out => by
    have := ovIn_len c y (if clsh c d = true then insAsc c.f0 out else out)
    simp only [ovIn, List.foldl_cons, List.length_cons] at this ⊢
    have h2 : (if clsh c d = true then insAsc c.f0 out else out).length ≤ out.length + 1 := by
      split
      · exact insAsc_len _ _
      · omega
    omega
theorem ovIn_asc (c : S48) : ∀ (y : List S48) (out : List Int), out.Pairwise (· < ·) → (ovIn c y out).Pairwise (· < ·)
  | [], out, h => h
  | d :: y, out, h => by
    refine ovIn_asc c y (if clsh c d = true then insAsc c.f0 out else out) ?_
    split
    · exact insAsc_asc _ _ h
    · exact h
theorem ovOut_asc (y : List S48) : ∀ (x : List S48) (out : List Int), out.Pairwise (· < ·) → (ovOut x y out).Pairwise (· < ·)
  | [], out, h => h
  | c :: x, out, h => ovOut_asc y x _ (ovIn_asc c y out h)
theorem ovIn_mem (c : S48) (a : Int) : ∀ (y : List S48) (out : List Int), a ∈ ovIn c y out ↔ a ∈ out ∨ (a = c.f0 ∧ ∃ d ∈ y, clsh c d = true)
  | [], out => by simp [ovIn]
  | d :: y, out => by
    have h := ovIn_mem c a y (if clsh c d = true then insAsc c.f0 out else out)
    have e : ovIn c (d :: y) out = ovIn c y (if clsh c d = true then insAsc c.f0 out else out) := rfl
    rw [e, h]
    by_cases hc : clsh c d = true
    · rw [if_pos hc, insAsc_mem]
      constructor
      · rintro ((h | h) | ⟨h, z, hz, hz2⟩)
        · exact .inr ⟨h, d, by simp, hc⟩
        · exact .inl h
        · exact .inr ⟨h, z, List.mem_cons_of_mem _ hz, hz2⟩
      · rintro (h | ⟨h, _⟩)
        · exact .inl (.inr h)
        · exact .inl (.inl h)
    · rw [if_neg hc]
      constructor
      · rintro (h | ⟨h, z, hz, hz2⟩)
        · exact .inl h
        · exact .inr ⟨h, z, List.mem_cons_of_mem _ hz, hz2⟩
      · rintro (h | ⟨h, z, hz, hz2⟩)
        · exact .inl h
        · rcases List.mem_cons.1 hz with rfl | hz
          · exact absurd hz2 hc
          · exact .inr ⟨h, z, hz, hz2⟩
theorem ovOut_mem (y : List S48) (a : Int) : ∀ (x : List S48) (out : List Int), a ∈ ovOut x y out ↔ a ∈ out ∨ ∃ c ∈ x, a = c.f0 ∧ ∃ d ∈ y, clsh c d = true
  | [], out => by simp [ovOut]
  | c :: x, out => by
    have e : ovOut (c :: x) y out = ovOut x y (ovIn c y out) := rfl
    rw [e, ovOut_mem y a x, ovIn_mem]
    constructor
    · rintro ((h | h) | ⟨z, hz, h⟩)
      · exact .inl h
      · exact .inr ⟨c, by simp, h⟩
      · exact .inr ⟨z, List.mem_cons_of_mem _ hz, h⟩
    · rintro (h | ⟨z, hz, h⟩)
      · exact .inl (.inl h)
      · rcases List.mem_cons.1 hz with rfl | hz
        · exact .inl (.inr h)
        · exact .inr ⟨z, hz, h⟩
theorem groupTo_mem (x : List S48) (a f : Int) : ∀ n, n ≤ x.length → (f ∈ (glook (groupTo x n) a).getD [] ↔ ∃ i, ∃ h : i < x.length, i < n ∧ x[i].f0 = a ∧ x[i].f1 = f)
  | 0, _ => by simp [groupTo, glook]
  | n + 1, hn => by
    have hx : x.getD n z48 = x[n] := by rw [List.getD_eq_getElem?_getD, List.getElem?_eq_getElem (by omega), Option.getD_some]
    have ih := groupTo_mem x a f n (by omega)
    rw [groupTo, hx, glook_put]
    by_cases e : a = x[n].f0
    · rw [if_pos e, Option.getD_some, List.mem_append, List.mem_singleton, ← e, ih]
      constructor
      · rintro (⟨i, h, h1, h2⟩ | h)
        · exact ⟨i, h, by omega, h2⟩
        · exact ⟨n, by omega, by omega, e.symm, h.symm⟩
      · rintro ⟨i, h, h1, h2, h3⟩
        by_cases hin : i = n
        · subst hin; exact .inr h3.symm
        · exact .inl ⟨i, h, by omega, h2, h3⟩
    · rw [if_neg e, ih]
      constructor
      · rintro ⟨i, h, h1, h2⟩
        exact ⟨i, h, by omega, h2⟩
      · rintro ⟨i, h, h1, h2, h3⟩
        have : i ≠ n := by rintro rfl; exact e h2.symm
        exact ⟨i, h, by omega, h2, h3⟩
theorem foundTo_mem (G : List (Int × List Int)) (y : List S48) (a : Int) : ∀ n, n ≤ y.length → (a ∈ foundTo G y n ↔ ∃ i, ∃ h : i < y.length, i < n ∧ y[i].f0 = a ∧ ((glook G a).getD []).any (fun f => ovl f y[i].f1) = true)
  | 0, _ => by simp [foundTo]
  | n + 1, hn => by
    have hy : y.getD n z48 = y[n] := by rw [List.getD_eq_getElem?_getD, List.getElem?_eq_getElem (by omega), Option.getD_some]
    have ih := foundTo_mem G y a n (by omega)
    have step : (∃ i, ∃ h : i < y.length, i < n + 1 ∧ y[i].f0 = a ∧ ((glook G a).getD []).any (fun f => ovl f y[i].f1) = true) ↔ (a ∈ foundTo G y n ∨ (y[n].f0 = a ∧ ((glook G a).getD []).any (fun f => ovl f y[n].f1) = true)) := by
      rw [ih]
      constructor
      · rintro ⟨i, h, h1, h2, h3⟩
        by_cases hin : i = n
        · subst hin; exact .inr ⟨h2, h3⟩
        · exact .inl ⟨i, h, by omega, h2, h3⟩
      · rintro (⟨i, h, h1, h2⟩ | h)
        · exact ⟨i, h, by omega, h2⟩
        · exact ⟨n, by omega, by omega, h⟩
    rw [step, foundTo, hy]
    by_cases hc : ((glook G y[n].f0).getD []).any (fun f => ovl f y[n].f1) = true
    · rw [if_pos hc]
      by_cases hm : y[n].f0 ∈ foundTo G y n
      · rw [if_pos hm]
        constructor
        · exact .inl
        · rintro (h | ⟨h, _⟩)
          · exact h
          · rw [← h]; exact hm
      · rw [if_neg hm, List.mem_append, List.mem_singleton]
        constructor
        · rintro (h | h)
          · exact .inl h
          · exact .inr ⟨h.symm, by rw [h]; exact hc⟩
        · rintro (h | ⟨h, _⟩)
          · exact .inl h
          · exact .inr h.symm
    · rw [if_neg hc]
      constructor
      · exact .inl
      · rintro (h | ⟨h, h2⟩)
        · exact h
        · rw [← h] at h2; exact absurd h2 hc
/-- The two lists of identifiers are one. -/
theorem overlap_same (x y : List S48) : ascL (foundTo (groupTo x x.length) y y.length) = ovOut x y [] := by
  refine ext_asc (ascL_asc _) (ovOut_asc y x [] List.Pairwise.nil) (fun a => ?_)
  rw [ascL_mem, foundTo_mem _ _ _ _ (Nat.le_refl _), ovOut_mem]
  constructor
  · rintro ⟨i, h, _, h1, h2⟩
    obtain ⟨f, hf, ho⟩ := List.any_eq_true.1 h2
    obtain ⟨j, hj, _, h3, h4⟩ := (groupTo_mem x a f x.length (Nat.le_refl _)).1 hf
    refine .inr ⟨x[j], List.getElem_mem hj, h3.symm, y[i], List.getElem_mem h, ?_⟩
    unfold clsh
    rw [h3, h1, h4, decide_eq_true rfl, ho]
    rfl
  · rintro (h | ⟨c, hc, rfl, d, hd, hcl⟩)
    · cases h
    · obtain ⟨j, hj, rfl⟩ := List.getElem_of_mem hc
      obtain ⟨i, hi, rfl⟩ := List.getElem_of_mem hd
      unfold clsh at hcl
      rw [Bool.and_eq_true, decide_eq_true_eq] at hcl
      refine ⟨i, hi, hi, hcl.1.symm, List.any_eq_true.2 ⟨x[j].f1, ?_, hcl.2⟩⟩
      exact (groupTo_mem x _ _ x.length (Nat.le_refl _)).2 ⟨j, hj, hj, rfl, rfl⟩
theorem ovOut_len (y : List S48) : ∀ (x : List S48) (out : List Int), (ovOut x y out).length ≤ out.length + x.length * y.length
  | [], out => by simp [ovOut]
  | c :: x, out => by
    have e : ovOut (c :: x) y out = ovOut x y (ovIn c y out) := rfl
    have h1 := ovOut_len y x (ovIn c y out)
    have h2 := ovIn_len c y out
    rw [e, List.length_cons, Nat.add_mul]
    omega

theorem fit_of_wf {a : Int} (h : (Lit.int .i64 a).wf = true) : fitI a = true := by
  have h1 : IntKind.i64.min = -9223372036854775808 := by decide
  have h2 : IntKind.i64.max = 9223372036854775807 := by decide
  simp only [Lit.wf, h1, h2, Bool.and_eq_true, decide_eq_true_eq] at h
  unfold fitI
  simp only [Bool.and_eq_true, decide_eq_true_eq]
  omega
theorem change_overlap_f (x y : List S48) (hx : x.length ≤ 10000000) (hy : y.length ≤ 10000000) (hw : ∀ c ∈ y, fitI c.f0 = true) : change_Overlap.f x y = some (ovOut x y []) := by
  unfold change_Overlap.f
  rw [overlap_same, decide_eq_true hx, decide_eq_true hy, (List.all_eq_true.2 hw : y.all (fun c => fitI c.f0) = true)]
  rfl

theorem rd31 (l : List S25) (i : Nat) (h : i < l.length) : rd_T25 l (i : Int) = l[i] := by
  unfold rd_T25
  simp [List.getD_eq_getElem?_getD, List.getElem?_eq_getElem h]
theorem eta31 (y : S25) : (⟨y.f0, y.f1, y.f2, y.f3⟩ : S25) = y := by cases y; rfl
theorem preL_drop (l : List S25) (i : Nat) (h : i < l.length) : preL (l.drop i) = preT l[i] ++ preL (l.drop (i + 1)) := by
  rw [List.drop_eq_getElem_cons h, preL]
theorem preT_sub (x : S25) : ∀ y ∈ preT x, (preT y).length ≤ (preT x).length ∧ ∀ z ∈ preT y, z ∈ preT x := by
  induction x using tree_ind with
  | h x ih =>
  intro y hy
  rw [preT_eq x, List.mem_cons] at hy
  rcases hy with rfl | hy
  · exact ⟨Nat.le_refl _, fun z hz => hz⟩
  · have key : ∀ l : List S25, (∀ v ∈ l, v ∈ x.f3) → y ∈ preL l → (preT y).length ≤ (preL l).length ∧ ∀ z ∈ preT y, z ∈ preL l := by
      intro l
      induction l with
      | nil => intro _ h; simp [preL] at h
      | cons v l ihl =>
        intro hv h
        rw [preL, List.mem_append] at h
        rcases h with h | h
        · obtain ⟨h1, h2⟩ := ih v (hv v (by simp)) y h
          rw [preL, List.length_append]
          exact ⟨by omega, fun z hz => List.mem_append.2 (Or.inl (h2 z hz))⟩
        · obtain ⟨h1, h2⟩ := ihl (fun u hu => hv u (by simp [hu])) h
          rw [preL, List.length_append]
          exact ⟨by omega, fun z hz => List.mem_append.2 (Or.inr (h2 z hz))⟩
    obtain ⟨h1, h2⟩ := key x.f3 (fun v hv => hv) hy
    rw [preT_eq x, List.length_cons]
    exact ⟨by omega, fun z hz => List.mem_cons_of_mem _ (h2 z hz)⟩
theorem kid_pre {x y : S25} (h : y ∈ x.f3) : y ∈ preT x := by
  rw [preT_eq]
  refine List.mem_cons_of_mem _ ?_
  generalize x.f3 = l at h
  induction l with
  | nil => simp at h
  | cons v l ih =>
    rw [preL, List.mem_append]
    rcases List.mem_cons.1 h with rfl | h
    · exact Or.inl (by rw [preT_eq]; simp)
    · exact Or.inr (ih h)
theorem left_ev (x : S25) : ∀ (n v : Int), n ≤ 1000 → v ≤ 1000 → ∃ r, Ev (fun k => treemergeref06_left.f k x.f0 x.f1 x.f2 x.f3 n v) r ∧ (0 ≤ r → ((preT x).length : Int) + r = n) := by
  induction x using tree_ind with
  | h x ih =>
  intro n v hn hv
  have bad : ∃ r, Ev (fun k => treemergeref06_left.j0 k n v true x.f0 x.f1 x.f2 x.f3) r ∧ (0 ≤ r → ((preT x).length : Int) + r = n) := ⟨-1, Ev.step (fun k => by rw [treemergeref06_left.j0, if_pos rfl]) (Ev.now _), fun h => by omega⟩
  by_cases h1 : n < 1
  · obtain ⟨r, e, q⟩ := bad
    exact ⟨r, Ev.step (fun k => by rw [treemergeref06_left.f, if_pos h1]) e, q⟩
  by_cases h2 : v < 1
  · obtain ⟨r, e, q⟩ := bad
    exact ⟨r, Ev.step (fun k => by rw [treemergeref06_left.f, if_neg h1, if_pos h2]) e, q⟩
  by_cases h3 : (x.f3.length : Int) > n
  · obtain ⟨r, e, q⟩ := bad
    exact ⟨r, Ev.step (fun k => by rw [treemergeref06_left.f, if_neg h1, if_neg h2, decide_eq_true h3]) e, q⟩
  have wn : wrap64 (n - 1) = n - 1 := by unfold wrap64; omega
  have wv : wrap64 (v - 1) = v - 1 := by unfold wrap64; omega
  have loop : ∀ (g i : Nat) (m : Int), i + g = x.f3.length → 0 ≤ m → m ≤ 1000 → ∃ r, Ev (fun k => treemergeref06_left.l0 k v m (i : Int) x.f0 x.f1 x.f2 x.f3) r ∧ (0 ≤ r → ((preL (x.f3.drop i)).length : Int) + r = m) := by
    intro g
    induction g with
    | zero =>
      intro i m hi _ _
      refine ⟨m, Ev.step (fun k => by rw [treemergeref06_left.l0, if_neg (by omega)]) (Ev.now _), fun _ => ?_⟩
      rw [List.drop_of_length_le (by omega), preL]
      simp
    | succ g ihg =>
      intro i m hi h0 hm
      have hil : i < x.f3.length := by omega
      have wu : wrap64 ((i : Int) + 1) = ((i + 1 : Nat) : Int) := by unfold wrap64; omega
      obtain ⟨r, e, q⟩ := ih x.f3[i] (List.getElem_mem hil) m (v - 1) hm (by omega)
      by_cases hr : r < 0
      · exact ⟨-1, Ev.step (fun k => by rw [treemergeref06_left.l0, if_pos (by omega), if_pos (by omega), rd31 _ i hil, wv]) (e.bind (Ev.pos hr (Ev.now _))), fun h => by omega⟩
      · obtain ⟨r2, e2, q2⟩ := ihg (i + 1) r (by omega) (by omega) (by have := q (by omega); omega)
        refine ⟨r2, Ev.step (fun k => by rw [treemergeref06_left.l0, if_pos (by omega), if_pos (by omega), rd31 _ i hil, wv, wu]) (e.bind (Ev.neg hr e2)), fun h => ?_⟩
        rw [preL_drop _ i hil, List.length_append]
        have := q (by omega)
        have := q2 h
        omega
  obtain ⟨r, e, q⟩ := loop x.f3.length 0 (n - 1) (by omega) (by omega) (by omega)
  have e1 : Ev (fun k => treemergeref06_left.j0 k n v false x.f0 x.f1 x.f2 x.f3) r := Ev.step (fun k => by rw [treemergeref06_left.j0, if_neg (by decide), wn]; rfl) e
  refine ⟨r, Ev.step (fun k => by rw [treemergeref06_left.f, if_neg h1, if_neg h2, decide_eq_false h3]) e1, fun h => ?_⟩
  have := q h
  rw [List.drop_zero] at this
  rw [preT_eq, List.length_cons]
  omega
def OkN (y : S25) : Prop := y.f1.size ≤ 1000 ∧ y.f2.length ≤ 1000
theorem weigh_ev (x : S25) : (preT x).length ≤ 100 → ∀ (b : Int), b ≤ 1000 → ∃ r, Ev (fun k => treemergeref06_weigh.f k x.f0 x.f1 x.f2 x.f3 b) r ∧ (0 ≤ r → r ≤ b ∧ ∀ y ∈ preT x, OkN y) := by
  induction x using tree_ind with
  | h x ih =>
  intro hx b hb
  have hk : x.f3.length ≤ 100 := by
    have h2 := preL_len x.f3
    rw [preT_eq, List.length_cons] at hx
    omega
  have bad : ∃ r, Ev (fun k => treemergeref06_weigh.j0 k b true x.f0 x.f1 x.f2 x.f3) r ∧ (0 ≤ r → r ≤ b ∧ ∀ y ∈ preT x, OkN y) := ⟨-1, Ev.step (fun k => by rw [treemergeref06_weigh.j0, if_pos rfl]) (Ev.now _), fun h => by omega⟩
  by_cases h1 : (x.f1.size : Int) > b
  · obtain ⟨r, e, q⟩ := bad
    exact ⟨r, Ev.step (fun k => by rw [treemergeref06_weigh.f, if_pos h1]) e, q⟩
  by_cases h2 : (x.f2.length : Int) > b
  · obtain ⟨r, e, q⟩ := bad
    exact ⟨r, Ev.step (fun k => by rw [treemergeref06_weigh.f, if_neg h1, decide_eq_true h2]) e, q⟩
  have loop1 : ∀ (g i : Nat) (m : Int), i + g = x.f3.length → 0 ≤ m → m ≤ b → ∃ r, Ev (fun k => treemergeref06_weigh.l1 k m (i : Int) x.f0 x.f1 x.f2 x.f3) r ∧ (0 ≤ r → r ≤ b ∧ ∀ y ∈ preL (x.f3.drop i), OkN y) := by
    intro g
    induction g with
    | zero =>
      intro i m hi _ hm
      refine ⟨m, Ev.step (fun k => by rw [treemergeref06_weigh.l1, if_neg (by omega)]) (Ev.now _), fun _ => ⟨hm, ?_⟩⟩
      rw [List.drop_of_length_le (by omega), preL]
      simp
    | succ g ihg =>
      intro i m hi h0 hm
      have hil : i < x.f3.length := by omega
      have wu : wrap64 ((i : Int) + 1) = ((i + 1 : Nat) : Int) := by unfold wrap64; omega
      obtain ⟨r, e, q⟩ := ih x.f3[i] (List.getElem_mem hil) (Nat.le_trans (preT_sub x _ (kid_pre (List.getElem_mem hil))).1 hx) m (by omega)
      by_cases hr : r < 0
      · exact ⟨-1, Ev.step (fun k => by rw [treemergeref06_weigh.l1, if_pos (by omega), if_pos (by omega), rd31 _ i hil]) (e.bind (Ev.pos hr (Ev.now _))), fun h => by omega⟩
      · obtain ⟨q1, q3⟩ := q (by omega)
        obtain ⟨r2, e2, q2⟩ := ihg (i + 1) r (by omega) (by omega) (by omega)
        refine ⟨r2, Ev.step (fun k => by rw [treemergeref06_weigh.l1, if_pos (by omega), if_pos (by omega), rd31 _ i hil, wu]) (e.bind (Ev.neg hr e2)), fun h => ⟨(q2 h).1, fun y hy => ?_⟩⟩
        rw [preL_drop _ i hil, List.mem_append] at hy
        rcases hy with hy | hy
        · exact q3 y hy
        · exact (q2 h).2 y hy
  have loop0 : ∀ (g i : Nat) (m : Int), i + g = x.f2.length → 0 ≤ m → m ≤ b → ∃ r, Ev (fun k => treemergeref06_weigh.l0 k m (i : Int) x.f0 x.f1 x.f2 x.f3) r ∧ (0 ≤ r → r ≤ b ∧ ∀ y ∈ preL x.f3, OkN y) := by
    intro g
    induction g with
    | zero =>
      intro i m hi h0 hm
      obtain ⟨r, e, q⟩ := loop1 x.f3.length 0 m (by omega) h0 hm
      exact ⟨r, Ev.step (fun k => by rw [treemergeref06_weigh.l0, if_neg (by omega)]; rfl) e, by rwa [List.drop_zero] at q⟩
    | succ g ihg =>
      intro i m hi h0 hm
      have hil : i < x.f2.length := by omega
      have wu : wrap64 ((i : Int) + 1) = ((i + 1 : Nat) : Int) := by unfold wrap64; omega
      by_cases hz : ((rdOf ByteArray.empty x.f2 (i : Int)).size : Int) ≥ m
      · exact ⟨-1, Ev.step (fun k => by rw [treemergeref06_weigh.l0, if_pos (by omega), if_pos (by omega), if_pos hz]) (Ev.now _), fun h => by omega⟩
      · have w1 : wrap64 (m - ((rdOf ByteArray.empty x.f2 (i : Int)).size : Int)) = m - ((rdOf ByteArray.empty x.f2 (i : Int)).size : Int) := by unfold wrap64; omega
        have w2 : wrap64 (m - ((rdOf ByteArray.empty x.f2 (i : Int)).size : Int) - 1) = m - ((rdOf ByteArray.empty x.f2 (i : Int)).size : Int) - 1 := by unfold wrap64; omega
        obtain ⟨r, e, q⟩ := ihg (i + 1) (m - ((rdOf ByteArray.empty x.f2 (i : Int)).size : Int) - 1) (by omega) (by omega) (by omega)
        exact ⟨r, Ev.step (fun k => by rw [treemergeref06_weigh.l0, if_pos (by omega), if_pos (by omega), if_neg hz, w1, w2, wu]) e, q⟩
  have ws : wrap64 (b - (x.f1.size : Int)) = b - (x.f1.size : Int) := by unfold wrap64; omega
  obtain ⟨r, e, q⟩ := loop0 x.f2.length 0 (b - (x.f1.size : Int)) (by omega) (by omega) (by omega)
  have e1 : Ev (fun k => treemergeref06_weigh.j0 k b false x.f0 x.f1 x.f2 x.f3) r := Ev.step (fun k => by rw [treemergeref06_weigh.j0, if_neg (by decide), ws]; rfl) e
  refine ⟨r, Ev.step (fun k => by rw [treemergeref06_weigh.f, if_neg h1, decide_eq_false h2]) e1, fun h => ⟨(q h).1, fun y hy => ?_⟩⟩
  rw [preT_eq, List.mem_cons] at hy
  rcases hy with rfl | hy
  · exact ⟨by omega, by omega⟩
  · exact (q h).2 y hy
def LightT (x : S25) : Prop := (preT x).length ≤ 60 ∧ ∀ y ∈ preT x, OkN y
theorem light_ev (x : S25) : ∃ b, Ev (fun k => treemergeref06_Light.f k x.f0 x.f1 x.f2 x.f3 60 60 1000) b ∧ (b = true → LightT x) := by
  unfold treemergeref06_Light.f treemergeref06_Fits.f
  obtain ⟨r, e, q⟩ := left_ev x 60 60 (by omega) (by omega)
  have eF : Ev (fun k => (treemergeref06_left.f k x.f0 x.f1 x.f2 x.f3 60 60).bind fun t228 => some (decide (t228 ≥ 0))) (decide (r ≥ 0)) := e.bind (Ev.now _)
  by_cases h : r ≥ 0
  · obtain ⟨s, e2, q2⟩ := weigh_ev x (by have := q h; omega) 1000 (by omega)
    refine ⟨decide (s ≥ 0), eF.bind (Ev.pos (decide_eq_true h) (e2.bind (Ev.now _))), fun hs => ?_⟩
    have hs := of_decide_eq_true hs
    exact ⟨by have := q h; omega, (q2 hs).2⟩
  · exact ⟨false, eF.bind (Ev.neg (by simp [h]) (Ev.now _)), fun h => by cases h⟩

theorem clsh_symm (c d : S48) : clsh c d = clsh d c := by
  unfold clsh ovl
  by_cases h : c.f0 = d.f0
  · rw [decide_eq_true h, decide_eq_true h.symm, Bool.true_and, Bool.true_and]
    by_cases e : c.f1 = d.f1
    · rw [if_pos e, if_pos e.symm, e]
    · rw [if_neg e, if_neg (fun z => e z.symm), Bool.or_comm]
  · rw [decide_eq_false h, decide_eq_false (show ¬ d.f0 = c.f0 from fun z => h z.symm), Bool.false_and, Bool.false_and]
theorem clsh_id {c d : S48} (h : clsh c d = true) : c.f0 = d.f0 := by
  unfold clsh at h
  rw [Bool.and_eq_true, decide_eq_true_eq] at h
  exact h.1
/-- The order of the two sides is of no account. -/
theorem ovOut_comm (x y : List S48) : ovOut x y [] = ovOut y x [] := by
  refine ext_asc (ovOut_asc y x [] List.Pairwise.nil) (ovOut_asc x y [] List.Pairwise.nil) (fun a => ?_)
  rw [ovOut_mem, ovOut_mem]
  constructor
  · rintro (h | ⟨c, hc, rfl, d, hd, h⟩)
    · exact .inl h
    · exact .inr ⟨d, hd, clsh_id h, c, hc, by rw [clsh_symm]; exact h⟩
  · rintro (h | ⟨c, hc, rfl, d, hd, h⟩)
    · exact .inl h
    · exact .inr ⟨d, hd, clsh_id h, c, hc, by rw [clsh_symm]; exact h⟩
/-- What a side's identifiers keep, up to n. -/
def AgC (rows : List S70) (ids : List Int) (count : Int) (K : List (Int × Int)) (n : Nat) : Prop :=
  ∀ i, i < n → 0 ≤ ids.getD i 0 ∧ ids.getD i 0 < count ∧ (∀ j, j < i → ids.getD j 0 ≠ ids.getD i 0) ∧ (ids.getD i 0 = 0 → i = 0) ∧ (glook K (ids.getD i 0) = none ∨ glook K (ids.getD i 0) = some (rows.getD i z70).f1)
structure AgS (rows : List S70) (ids : List Int) (K : List (Int × Int)) (n : Nat) (seen : List (Int × Bool)) (K' : List (Int × Int)) : Prop where
  s : ∀ a, (glook seen a).getD false = true ↔ ∃ i, i < n ∧ ids.getD i 0 = a
  h : ∀ i, i < n → glook K' (ids.getD i 0) = some (rows.getD i z70).f1
  o : ∀ a, (∀ i, i < n → ids.getD i 0 ≠ a) → glook K' a = glook K a
theorem agRun_iff (rows : List S70) (ids : List Int) (count : Int) (K : List (Int × Int)) : ∀ n, ((agRun rows ids count K n).1 = true ↔ AgC rows ids count K n) ∧ (AgC rows ids count K n → AgS rows ids K n (agRun rows ids count K n).2.1 (agRun rows ids count K n).2.2)
  | 0 => ⟨⟨fun _ i hi => absurd hi (Nat.not_lt_zero i), fun _ => rfl⟩, fun _ => ⟨fun a => ⟨fun h => by simp [agRun, glook] at h, fun ⟨i, hi, _⟩ => absurd hi (Nat.not_lt_zero i)⟩, fun i hi => absurd hi (Nat.not_lt_zero i), fun _ _ => rfl⟩⟩
  | n + 1 => by
    obtain ⟨h1, h2⟩ := agRun_iff rows ids count K n
    have down : AgC rows ids count K (n + 1) → AgC rows ids count K n := fun h i hi => h i (by omega)
    rw [agRun]
    by_cases hok : (agRun rows ids count K n).1 = false
    · rw [if_pos hok]
      have hn : ¬ AgC rows ids count K n := fun h => by rw [h1.2 h] at hok; cases hok
      exact ⟨⟨fun h => (by rw [hok] at h; cases h), fun h => absurd (down h) hn⟩, fun h => absurd (down h) hn⟩
    · rw [if_neg hok]
      have hC : AgC rows ids count K n := h1.1 (by simpa using hok)
      have hS := h2 hC
      by_cases hA : ids.getD n 0 < 0 ∨ count ≤ ids.getD n 0 ∨ (glook (agRun rows ids count K n).2.1 (ids.getD n 0)).getD false = true
      · rw [if_pos hA]
        have hn : ¬ AgC rows ids count K (n + 1) := fun h => by
          obtain ⟨b1, b2, b3, _⟩ := h n (by omega)
          rcases hA with hA | hA | hA
          · omega
          · omega
          · obtain ⟨i, hi, he⟩ := (hS.s _).1 hA
            exact b3 i hi he
        exact ⟨⟨fun h => (by cases h), fun h => absurd h hn⟩, fun h => absurd h hn⟩
      · rw [if_neg hA]
        have hne : ∀ i, i < n → ids.getD i 0 ≠ ids.getD n 0 := fun i hi he => hA (.inr (.inr ((hS.s _).2 ⟨i, hi, he⟩)))
        have hK := hS.o _ hne
        by_cases hB : (glook (agRun rows ids count K n).2.2 (ids.getD n 0)).isSome = true ∧ (glook (agRun rows ids count K n).2.2 (ids.getD n 0)).getD 0 ≠ (rows.getD n z70).f1
        · rw [if_pos hB]
          have hn : ¬ AgC rows ids count K (n + 1) := fun h => by
            obtain ⟨_, _, _, _, b5⟩ := h n (by omega)
            rcases b5 with b | b <;> rw [hK, b] at hB
            · exact absurd hB.1 (by simp)
            · exact hB.2 rfl
          exact ⟨⟨fun h => (by cases h), fun h => absurd h hn⟩, fun h => absurd h hn⟩
        · rw [if_neg hB]
          dsimp only
          have hB2 : glook K (ids.getD n 0) = none ∨ glook K (ids.getD n 0) = some (rows.getD n z70).f1 := by
            rw [hK] at hB
            cases e : glook K (ids.getD n 0) with
            | none => exact .inl rfl
            | some v => exact .inr (by rw [e] at hB; exact congrArg some (Decidable.of_not_not fun z => hB ⟨rfl, z⟩))
          refine ⟨⟨fun h i hi => ?_, fun h => ?_⟩, fun h => ⟨fun a => ?_, fun i hi => ?_, fun a ha => ?_⟩⟩
          · by_cases e : i = n
            · subst e
              refine ⟨by omega, by omega, hne, fun z => ?_, hB2⟩
              rw [decide_eq_true z] at h
              simpa using h
            · exact hC i (by omega)
          · obtain ⟨_, _, _, b4, _⟩ := h n (by omega)
            by_cases z : ids.getD n 0 = 0
            · have e0 := b4 z
              subst e0
              simp
            · rw [decide_eq_false z]
              rfl
          · rw [glook_put]
            by_cases e : a = ids.getD n 0
            · rw [if_pos e]
              exact ⟨fun _ => ⟨n, by omega, e.symm⟩, fun _ => rfl⟩
            · rw [if_neg e, hS.s]
              exact ⟨fun ⟨i, hi, hx⟩ => ⟨i, by omega, hx⟩, fun ⟨i, hi, hx⟩ => ⟨i, by have : i ≠ n := (fun z => e (by rw [← hx, z])); omega, hx⟩⟩
          · rw [glook_put]
            by_cases e : i = n
            · rw [e, if_pos rfl]
            · rw [if_neg (hne i (by omega))]
              exact hS.h i (by omega)
          · rw [glook_put, if_neg (fun z => ha n (by omega) z.symm)]
            exact hS.o a (fun i hi => ha i (by omega))
theorem gput_nodup {κ β : Type} [DecidableEq κ] (k : κ) (v : β) (l : List (κ × β)) (h : (l.map (fun p => p.1)).Nodup) : ((gput l k v).map (fun p => p.1)).Nodup := by
  rw [gput_keys]
  split
  · exact h
  · rename_i hk
    rw [List.nodup_append]
    exact ⟨h, by simp, fun a ha b hb e => hk (by rw [List.mem_singleton] at hb; rw [← hb, ← e]; exact ha)⟩
theorem agRun_nodup (rows : List S70) (ids : List Int) (count : Int) (K : List (Int × Int)) (h : (K.map (fun p => p.1)).Nodup) : ∀ n, ((agRun rows ids count K n).2.2.map (fun p => p.1)).Nodup
  | 0 => h
  | n + 1 => by
    have ih := agRun_nodup rows ids count K h n
    rw [agRun]
    split
    · exact ih
    · split
      · exact ih
      · split
        · exact ih
        · exact gput_nodup _ _ _ ih
theorem agRun_len (rows : List S70) (ids : List Int) (count : Int) (K : List (Int × Int)) : ∀ n, (agRun rows ids count K n).2.2.length ≤ K.length + n
  | 0 => Nat.le_refl _
  | n + 1 => by
    have ih := agRun_len rows ids count K n
    rw [agRun]
    split
    · omega
    · split
      · exact Nat.le_trans ih (by omega)
      · split
        · exact Nat.le_trans ih (by omega)
        · exact Nat.le_trans (gput_len _ _ _) (by omega)
theorem baseK_nodup (rows : List S70) : ∀ n, ((baseK rows n).map (fun p => p.1)).Nodup
  | 0 => List.nodup_nil
  | n + 1 => by rw [baseK]; exact gput_nodup _ _ _ (baseK_nodup rows n)
theorem baseK_len (rows : List S70) : ∀ n, (baseK rows n).length ≤ n
  | 0 => Nat.le_refl _
  | n + 1 => by rw [baseK]; exact Nat.le_trans (gput_len _ _ _) (by have := baseK_len rows n; omega)
theorem agRes_iff {rows : List S70} {ids : List Int} {count : Int} {K : List (Int × Int)} {k0 k1 : Int} : agRes rows ids count K k0 k1 = true ↔ rows.length = ids.length ∧ AgC rows ids count K ids.length ∧ (ids.getD 0 0 = 0 ↔ k0 = k1) := by
  unfold agRes
  by_cases h : rows.length = ids.length
  · rw [if_pos h, Bool.and_eq_true, (agRun_iff rows ids count K ids.length).1, beq_iff_eq, decide_eq_decide]
    exact ⟨fun ⟨a, b⟩ => ⟨h, a, b⟩, fun ⟨_, a, b⟩ => ⟨a, b⟩⟩
  · rw [if_neg h]
    exact ⟨fun z => (by cases z), fun z => absurd z.1 h⟩
theorem agK_of {rows : List S70} {ids : List Int} {count : Int} {K : List (Int × Int)} (h : rows.length = ids.length) : agK rows ids count K = (agRun rows ids count K ids.length).2.2 := by unfold agK; rw [if_pos h]
theorem agK_len (rows : List S70) (ids : List Int) (count : Int) (K : List (Int × Int)) : (agK rows ids count K).length ≤ K.length + ids.length := by
  unfold agK
  split
  · exact agRun_len _ _ _ _ _
  · omega
/-- A side fits the keys that the other has added, and the other fits those that this one adds. -/
theorem agC_swap {Y U : List S70} {lf rt : List Int} {count : Int} {K : List (Int × Int)} (hY : Y.length = lf.length) (hU : U.length = rt.length)
    (hL : AgC Y lf count K lf.length) (hR : AgC U rt count (agK Y lf count K) rt.length) : AgC U rt count K rt.length ∧ AgC Y lf count (agK U rt count K) lf.length := by
  have sL := (agRun_iff Y lf count K lf.length).2 hL
  rw [agK_of hY] at hR
  have h0 : AgC U rt count K rt.length := fun i hi => by
    obtain ⟨b1, b2, b3, b4, b5⟩ := hR i hi
    refine ⟨b1, b2, b3, b4, ?_⟩
    by_cases hj : ∃ j, j < lf.length ∧ lf.getD j 0 = rt.getD i 0
    · obtain ⟨j, hj, he⟩ := hj
      have k1 := sL.h j hj
      have k2 := (hL j hj).2.2.2.2
      rw [he] at k1 k2
      rw [k1] at b5
      rcases b5 with b5 | b5
      · cases b5
      · rw [b5] at k2; exact k2
    · rw [sL.o _ (fun j hj' he => hj ⟨j, hj', he⟩)] at b5
      exact b5
  have sR := (agRun_iff U rt count K rt.length).2 h0
  refine ⟨h0, fun i hi => ?_⟩
  obtain ⟨b1, b2, b3, b4, b5⟩ := hL i hi
  refine ⟨b1, b2, b3, b4, ?_⟩
  rw [agK_of hU]
  by_cases hj : ∃ j, j < rt.length ∧ rt.getD j 0 = lf.getD i 0
  · obtain ⟨j, hj, he⟩ := hj
    have k1 := sR.h j hj
    have k2 := (hR j hj).2.2.2.2
    rw [he] at k1 k2
    rw [sL.h i hi] at k2
    rcases k2 with k2 | k2
    · cases k2
    · rw [k1]; exact .inr k2.symm
  · rw [sR.o _ (fun j hj' he => hj ⟨j, hj', he⟩)]
    exact b5
theorem agK_nodup (rows : List S70) (ids : List Int) (count : Int) (K : List (Int × Int)) (h : (K.map (fun p => p.1)).Nodup) : ((agK rows ids count K).map (fun p => p.1)).Nodup := by
  unfold agK
  split
  · exact agRun_nodup _ _ _ _ h _
  · exact h
theorem agK_key {rows : List S70} {ids : List Int} {count : Int} {K : List (Int × Int)} (hl : rows.length = ids.length) (h : AgC rows ids count K ids.length) (a : Int) : a ∈ (agK rows ids count K).map (fun p => p.1) ↔ (a ∈ K.map (fun p => p.1) ∨ ∃ i, i < ids.length ∧ ids.getD i 0 = a) := by
  have s := (agRun_iff rows ids count K ids.length).2 h
  rw [agK_of hl]
  by_cases hj : ∃ i, i < ids.length ∧ ids.getD i 0 = a
  · refine ⟨fun _ => .inr hj, fun _ => ?_⟩
    obtain ⟨i, hi, rfl⟩ := hj
    refine Decidable.of_not_not fun z => ?_
    rw [← glook_none, s.h i hi] at z
    cases z
  · have e := s.o a (fun i hi he => hj ⟨i, hi, he⟩)
    constructor
    · intro ha
      refine .inl (Decidable.of_not_not fun z => ?_)
      rw [← glook_none, ← e, glook_none] at z
      exact z ha
    · rintro (ha | ha)
      · refine Decidable.of_not_not fun z => ?_
        rw [← glook_none, e, glook_none] at z
        exact z ha
      · exact absurd ha hj
theorem identF_swap {x y u : S25} {b lf rt : List Int} {count : Int} (h : identF x y u b lf rt count = true) : identF x u y b rt lf count = true := by
  unfold identF at h ⊢
  simp only [Bool.and_eq_true, decide_eq_true_eq] at h ⊢
  obtain ⟨h1, h2, h3, h4, h5, h6⟩ := h
  obtain ⟨l1, l2, l3⟩ := agRes_iff.1 h4
  obtain ⟨r1, r2, r3⟩ := agRes_iff.1 h5
  obtain ⟨s1, s2⟩ := agC_swap l1 r1 l2 r2
  refine ⟨h1, h2, h3, agRes_iff.2 ⟨r1, s1, r3⟩, agRes_iff.2 ⟨l1, s2, l3⟩, ?_⟩
  refine Eq.trans (congrArg Int.ofNat ?_) h6
  have n0 := baseK_nodup (rowsT x (-1) 0) b.length
  have p := (List.perm_ext_iff_of_nodup (agK_nodup (rowsT y (-1) 0) lf count _ (agK_nodup (rowsT u (-1) 0) rt count _ n0)) (agK_nodup (rowsT u (-1) 0) rt count _ (agK_nodup (rowsT y (-1) 0) lf count _ n0))).2 (fun a => by
    rw [agK_key l1 s2, agK_key r1 s1, agK_key r1 r2, agK_key l1 l2, or_assoc, or_assoc, or_comm (a := ∃ i, i < rt.length ∧ rt.getD i 0 = a)])
  have q := p.length_eq
  rw [List.length_map, List.length_map] at q
  exact q
theorem identF_comm (x y u : S25) (b lf rt : List Int) (count : Int) : identF x u y b rt lf count = identF x y u b lf rt count := by
  cases e : identF x y u b lf rt count with
  | true => exact identF_swap e
  | false =>
    cases e2 : identF x u y b rt lf count with
    | false => rfl
    | true => rw [identF_swap e2] at e; cases e
/-- With fitting identifiers all of them are small. -/
theorem identF_ids {x y u : S25} {b lf rt : List Int} {count : Int} (h : identF x y u b lf rt count = true) : count ≤ b.length + lf.length + rt.length ∧ (∀ a ∈ b, 0 ≤ a ∧ a < count) ∧ (∀ a ∈ lf, 0 ≤ a ∧ a < count) ∧ (∀ a ∈ rt, 0 ≤ a ∧ a < count) := by
  unfold identF at h
  simp only [Bool.and_eq_true, decide_eq_true_eq] at h
  obtain ⟨h1, h2, h3, h4, h5, h6⟩ := h
  obtain ⟨l1, l2, l3⟩ := agRes_iff.1 h4
  obtain ⟨r1, r2, r3⟩ := agRes_iff.1 h5
  have q1 := agK_len (rowsT u (-1) 0) rt count (agK (rowsT y (-1) 0) lf count (baseK (rowsT x (-1) 0) b.length))
  have q2 := agK_len (rowsT y (-1) 0) lf count (baseK (rowsT x (-1) 0) b.length)
  have q3 := baseK_len (rowsT x (-1) 0) b.length
  have key : ∀ l : List Int, (∀ i, i < l.length → 0 ≤ l.getD i 0 ∧ l.getD i 0 < count) → ∀ a ∈ l, 0 ≤ a ∧ a < count := fun l hl a ha => by
    obtain ⟨i, hi, rfl⟩ := List.getElem_of_mem ha
    have := hl i hi
    rw [List.getD_eq_getElem?_getD, List.getElem?_eq_getElem hi, Option.getD_some] at this
    exact this
  refine ⟨by omega, key b (fun i hi => ?_), key lf (fun i hi => ⟨(l2 i hi).1, (l2 i hi).2.1⟩), key rt (fun i hi => ⟨(r2 i hi).1, (r2 i hi).2.1⟩)⟩
  rw [h3 i hi]
  omega
theorem listF_id {x y : List (Int × Fct)} {l : List Int} {c : S48} (h : c ∈ listF x y l) : c.f0 ∈ l := by
  unfold listF at h
  obtain ⟨id, hid, hc⟩ := List.mem_flatMap.1 h
  have : c.f0 = id := by
    unfold chg at hc
    split at hc
    · simp only [List.mem_cons, List.not_mem_nil, or_false] at hc
      rcases hc with rfl | rfl <;> rfl
    · rw [List.mem_singleton] at hc; rw [hc]
    · rw [List.mem_singleton] at hc; rw [hc]
    · simp only [List.mem_append] at hc
      rcases hc with hc | hc | hc | hc <;> split at hc <;> first | (cases hc; done) | (rw [List.mem_singleton] at hc; rw [hc])
  rw [this]
  exact hid

theorem lightOk {x : S25} (h : LightT x) : treeOk x = true := by
  unfold treeOk
  rw [Bool.and_eq_true, decide_eq_true_eq, List.all_eq_true]
  exact ⟨by have := h.1; omega, fun y hy => decide_eq_true (by have := (h.2 y hy).2; omega)⟩
theorem ascL_len : ∀ l : List Int, (ascL l).length ≤ l.length
  | [] => Nat.le_refl _
  | a :: l => by
    have h1 := insAsc_len a (ascL l)
    have h2 := ascL_len l
    show (insAsc a (ascL l)).length ≤ l.length + 1
    omega
/-- The list of changes, and whether it can be made. -/
def lstL (x y : S25) (b o : List Int) : List S48 := listF (factsTo (rowsT x (-1) 0) b b.length) (factsTo (rowsT y (-1) 0) o o.length) (ascL (b ++ o))
def lstB (x y : S25) (b o : List Int) : Bool := factsOk (rowsT x (-1) 0) b && factsOk (rowsT y (-1) 0) o
theorem change_list_f {x y : S25} {b o : List Int} (hx : LightT x) (hy : LightT y) (hb : b.length ≤ 60) (ho : o.length ≤ 60) :
    change_List.f x.f0 x.f1 x.f2 x.f3 y.f0 y.f1 y.f2 y.f3 b o = some (if lstB x y b o = true then (lstL x y b o, 0) else ([], 15)) := by
  have h1 := lightOk hx
  have h2 := lightOk hy
  cases x
  cases y
  unfold change_List.f
  rw [if_pos (by rw [h1, h2, decide_eq_true (show b.length ≤ 400000 by omega), decide_eq_true (show o.length ≤ 400000 by omega)]; rfl)]
  rfl
theorem lstL_len (x y : S25) (b o : List Int) (hb : b.length ≤ 60) (ho : o.length ≤ 60) : (lstL x y b o).length ≤ 480 := by
  have h1 := listF_len (factsTo (rowsT x (-1) 0) b b.length) (factsTo (rowsT y (-1) 0) o o.length) (ascL (b ++ o))
  have h2 := ascL_len (b ++ o)
  rw [List.length_append] at h2
  unfold lstL
  omega
theorem ident_f {x y u : S25} (b lf rt : List Int) (cnt : Int) (hx : LightT x) (hy : LightT y) (hu : LightT u) :
    ident_Check.f x.f0 x.f1 x.f2 x.f3 y.f0 y.f1 y.f2 y.f3 u.f0 u.f1 u.f2 u.f3 b lf rt cnt = some (if identF x y u b lf rt cnt = true then 0 else 15) := by
  have h1 := lightOk hx
  have h2 := lightOk hy
  have h3 := lightOk hu
  cases x
  cases y
  cases u
  unfold ident_Check.f
  rw [if_pos (by rw [h1, h2, h3]; rfl)]
/-- What Independent answers. -/
def indR (x y u : S25) (b lf rt : List Int) (cnt : Int) : Bool × Int :=
  if identF x y u b lf rt cnt = true then
    (if lstB x y b lf = true then (if lstB x u b rt = true then (((ovOut (lstL x y b lf) (lstL x u b rt) []).length : Int) == 0, 0) else (false, 15)) else (false, 15))
  else (false, 15)
theorem ind_f {x y u : S25} {b lf rt : List Int} (cnt : Int) (hx : LightT x) (hy : LightT y) (hu : LightT u) (hb : b.length ≤ 60) (hl : lf.length ≤ 60) (hr : rt.length ≤ 60) :
    change_Independent.f x.f0 x.f1 x.f2 x.f3 y.f0 y.f1 y.f2 y.f3 u.f0 u.f1 u.f2 u.f3 b lf rt cnt = some (indR x y u b lf rt cnt) := by
  unfold change_Independent.f indR
  rw [ident_f b lf rt cnt hx hy hu, Option.bind_some]
  by_cases hI : identF x y u b lf rt cnt = true
  · rw [if_pos hI, if_pos hI, if_pos rfl, change_list_f hx hy hb hl, Option.bind_some]
    by_cases h1 : lstB x y b lf = true
    · rw [if_pos h1, if_pos h1, if_pos rfl, change_list_f hx hu hb hr, Option.bind_some]
      by_cases h2 : lstB x u b rt = true
      · rw [if_pos h2, if_pos h2, if_pos rfl]
        have q1 := lstL_len x y b lf hb hl
        have q2 := lstL_len x u b rt hb hr
        obtain ⟨i0, i1, i2, i3⟩ := identF_ids hI
        rw [change_overlap_f (lstL x y b lf) (lstL x u b rt) (by omega) (by omega) (fun c hc => ?_), Option.bind_some]
        have m := listF_id hc
        rw [ascL_mem, List.mem_append] at m
        have m2 : 0 ≤ c.f0 ∧ c.f0 < cnt := m.elim (i1 _) (i3 _)
        unfold fitI
        simp only [Bool.and_eq_true, decide_eq_true_eq]
        omega
      · rw [if_neg h2, if_neg h2, if_neg (by decide)]
    · rw [if_neg h1, if_neg h1, if_neg (by decide)]
  · rw [if_neg hI, if_neg hI, if_neg (by decide)]
theorem indR_swap (x y u : S25) (b lf rt : List Int) (cnt : Int) : indR x u y b rt lf cnt = indR x y u b lf rt cnt := by
  unfold indR
  rw [identF_comm, ovOut_comm]
  cases lstB x y b lf <;> cases lstB x u b rt <;> rfl
theorem factsTo_has (rows : List S70) (ids : List Int) : ∀ (n i : Nat), i < n → ∃ f, glook (factsTo rows ids n) (ids.getD i 0) = some f
  | 0, i, h => absurd h (Nat.not_lt_zero i)
  | n + 1, i, h => by
    rw [factsTo, glook_put]
    by_cases e : ids.getD i 0 = ids.getD n 0
    · exact ⟨_, if_pos e⟩
    · rw [if_neg e]
      exact factsTo_has rows ids n i (by have : i ≠ n := (fun z => e (by rw [z])); omega)
theorem lstL_self (x : S25) (b : List Int) : lstL x x b b = [] := by
  unfold lstL listF
  rw [List.flatMap_eq_nil_iff]
  intro a ha
  rw [ascL_mem, List.mem_append, or_self] at ha
  obtain ⟨i, hi, rfl⟩ := List.getElem_of_mem ha
  obtain ⟨f, hf⟩ := factsTo_has (rowsT x (-1) 0) b b.length i hi
  rw [List.getD_eq_getElem?_getD, List.getElem?_eq_getElem hi, Option.getD_some] at hf
  unfold chg
  rw [hf]
  simp
theorem indR_self (x u : S25) (b rt : List Int) (cnt : Int) (h : (indR x x u b b rt cnt).2 = 0) : (indR x x u b b rt cnt).1 = true := by
  unfold indR at h ⊢
  split at h
  · rename_i h1
    rw [if_pos h1]
    split at h
    · rename_i h2
      rw [if_pos h2]
      split at h
      · rename_i h3
        rw [if_pos h3, lstL_self]
        rfl
      · cases h
    · cases h
  · cases h
theorem small_ev (x : S25) : ∃ t, Ev (fun k => treemergelaw31_small.f k x.f0 x.f1 x.f2 x.f3) t ∧ (t = true → LightT x) := by
  obtain ⟨t, e, q⟩ := light_ev x
  exact ⟨t, e.bind (Ev.now _), q⟩
theorem few_ev (x y u : S25) (b lf rt : List Int) (cnt : Int) : ∃ t, Ev (fun k => treemergelaw31_few.f k x.f0 x.f1 x.f2 x.f3 y.f0 y.f1 y.f2 y.f3 u.f0 u.f1 u.f2 u.f3 b lf rt cnt) t ∧ (t = true → LightT x ∧ LightT y ∧ LightT u ∧ b.length ≤ 60 ∧ lf.length ≤ 60 ∧ rt.length ≤ 60) := by
  unfold treemergelaw31_few.f
  obtain ⟨t1, e1, q1⟩ := small_ev x
  obtain ⟨t2, e2, q2⟩ := small_ev y
  obtain ⟨t3, e3, q3⟩ := small_ev u
  by_cases h1 : t1 = true
  · by_cases h2 : t2 = true
    · by_cases h3 : t3 = true
      · by_cases h4 : (b.length : Int) ≤ 60
        · by_cases h5 : (lf.length : Int) ≤ 60
          · exact ⟨_, e1.bind (Ev.pos h1 (e2.bind (Ev.pos h2 (e3.bind (Ev.pos h3 (Ev.pos h4 (Ev.pos h5 (Ev.now _)))))))), fun h => ⟨q1 h1, q2 h2, q3 h3, by omega, by omega, by have := of_decide_eq_true h; omega⟩⟩
          · exact ⟨false, e1.bind (Ev.pos h1 (e2.bind (Ev.pos h2 (e3.bind (Ev.pos h3 (Ev.pos h4 (Ev.neg h5 (Ev.now _)))))))), fun h => by cases h⟩
        · exact ⟨false, e1.bind (Ev.pos h1 (e2.bind (Ev.pos h2 (e3.bind (Ev.pos h3 (Ev.neg h4 (Ev.now _))))))), fun h => by cases h⟩
      · exact ⟨false, e1.bind (Ev.pos h1 (e2.bind (Ev.pos h2 (e3.bind (Ev.neg h3 (Ev.now _)))))), fun h => by cases h⟩
    · exact ⟨false, e1.bind (Ev.pos h1 (e2.bind (Ev.neg h2 (Ev.now _)))), fun h => by cases h⟩
  · exact ⟨false, e1.bind (Ev.neg h1 (Ev.now _)), fun h => by cases h⟩

theorem ChangeSides_ev (l0 l1 : List S48) (x y u : S25) (b lf rt : List Int) (cnt : Int) (h0 : ∀ c ∈ l0, fitI c.f0 = true) (h1 : ∀ c ∈ l1, fitI c.f0 = true) :
    Ev (fun k => treemergelaw31_ChangeSides.f k l0 l1 x.f0 x.f1 x.f2 x.f3 y.f0 y.f1 y.f2 y.f3 u.f0 u.f1 u.f2 u.f3 b lf rt cnt) true := by
  unfold treemergelaw31_ChangeSides.f
  have aw : Ev (fun k => treemergelaw31_ChangeSides.j0 k l0 l1 true x.f0 x.f1 x.f2 x.f3 y.f0 y.f1 y.f2 y.f3 u.f0 u.f1 u.f2 u.f3 b lf rt cnt) true := Ev.step (fun k => by rw [treemergelaw31_ChangeSides.j0]) (Ev.pos rfl awake_ev)
  by_cases c0 : (l0.length : Int) > 60
  · exact Ev.pos c0 aw
  · refine Ev.neg c0 ?_
    by_cases c1 : (l1.length : Int) > 60
    · exact Ev.pos c1 aw
    · refine Ev.neg c1 ?_
      obtain ⟨t, e, q⟩ := few_ev x y u b lf rt cnt
      refine e.bind ?_
      cases t with
      | false => exact aw
      | true =>
        obtain ⟨hx, hy, hu, hb, hl, hr⟩ := q rfl
        have hov := ovOut_len l1 l0 []
        have hxy : l0.length * l1.length ≤ 60 * 60 := Nat.mul_le_mul (by omega) (by omega)
        simp only [List.length_nil] at hov
        refine Ev.step (fun k => by rw [treemergelaw31_ChangeSides.j0]) ?_
        refine Ev.neg (by decide) (Ev.known (change_overlap_f l0 l1 (by omega) (by omega) h1) (Ev.known (change_overlap_f l1 l0 (by omega) (by omega) h0) ((same_ev (ovOut l0 l1 []) _ (ovOut_comm l0 l1) (by omega)).bind (Ev.pos rfl (Ev.known (ind_f cnt hx hy hu hb hl hr) (Ev.known (ind_f cnt hx hu hy hb hr hl) ?_))))))
        rw [indR_swap]
        refine Ev.neg (by simp) ?_
        refine Ev.step (fun k => by rw [treemergelaw31_ChangeSides.j1]) ?_
        refine Ev.neg (by simp) (Ev.known (ind_f cnt hx hx hu hb hb hr) ?_)
        by_cases z : (indR x x u b b rt cnt).2 = 0
        · exact Ev.pos z (Ev.pos (indR_self x u b rt cnt z) awake_ev)
        · exact Ev.neg z awake_ev

structure S42 where
  f0 : S25
  f1 : S25
  f2 : S25
  f3 : S40
def k42 : Kd S42 := Kd.iso (Kd.pair k25 (Kd.pair k25 (Kd.pair k25 k40))) (fun x : S42 => (x.f0, x.f1, x.f2, x.f3))
theorem k42_open {w : World} {x : S42} {cs : List Value} (h : k42.K w x cs) : ∃ A2 c2 A3 c3 A6 c6 A7 c7 A10 c10 A11 c11 A12 c12 A13 c13 A14 c14, cs = [.int .i64 x.f0.f0, .string x.f0.f1, .slice A2 x.f0.f2.length c2, .slice A3 x.f0.f3.length c3, .int .i64 x.f1.f0, .string x.f1.f1, .slice A6 x.f1.f2.length c6, .slice A7 x.f1.f3.length c7, .int .i64 x.f2.f0, .string x.f2.f1, .slice A10 x.f2.f2.length c10, .slice A11 x.f2.f3.length c11, .slice A12 x.f3.f0.length c12, .slice A13 x.f3.f1.length c13, .slice A14 x.f3.f2.length c14, .int .i64 x.f3.f3] ∧ x.f0.f2.length ≤ c2 ∧ Kd.string.C w A2 x.f0.f2.length x.f0.f2 ∧ x.f0.f3.length ≤ c3 ∧ k25.C w A3 x.f0.f3.length x.f0.f3 ∧ x.f1.f2.length ≤ c6 ∧ Kd.string.C w A6 x.f1.f2.length x.f1.f2 ∧ x.f1.f3.length ≤ c7 ∧ k25.C w A7 x.f1.f3.length x.f1.f3 ∧ x.f2.f2.length ≤ c10 ∧ Kd.string.C w A10 x.f2.f2.length x.f2.f2 ∧ x.f2.f3.length ≤ c11 ∧ k25.C w A11 x.f2.f3.length x.f2.f3 ∧ x.f3.f0.length ≤ c12 ∧ (Kd.int .i64).C w A12 x.f3.f0.length x.f3.f0 ∧ x.f3.f1.length ≤ c13 ∧ (Kd.int .i64).C w A13 x.f3.f1.length x.f3.f1 ∧ x.f3.f2.length ≤ c14 ∧ (Kd.int .i64).C w A14 x.f3.f2.length x.f3.f2 := by
  obtain ⟨_, _, rfl, h0, ⟨_, _, rfl, h1, ⟨_, _, rfl, h2, h3⟩⟩⟩ := h
  obtain ⟨A2, c2, A3, c3, rfl, l2, g2, l3, g3⟩ := k25_open h0
  obtain ⟨A6, c6, A7, c7, rfl, l6, g6, l7, g7⟩ := k25_open h1
  obtain ⟨A10, c10, A11, c11, rfl, l10, g10, l11, g11⟩ := k25_open h2
  obtain ⟨A12, c12, A13, c13, A14, c14, rfl, l12, g12, l13, g13, l14, g14⟩ := k40_open h3
  exact ⟨A2, c2, A3, c3, A6, c6, A7, c7, A10, c10, A11, c11, A12, c12, A13, c13, A14, c14, rfl, l2, g2, l3, g3, l6, g6, l7, g7, l10, g10, l11, g11, l12, g12, l13, g13, l14, g14⟩
theorem ChangeSides_row {w : World} (A0 : Option Addr) (c0 : Nat) (l0 : List S48) (hr0 : Kd.C k48 w A0 l0.length l0) (hc0 : l0.length ≤ c0) (hy0 : l0.length * 16 ≤ 140737488351232) (hok0 : ∀ x ∈ l0, (Lit.int .i64 x.f0).wf = true ∧ (Lit.int .i64 x.f1).wf = true) (A1 : Option Addr) (c1 : Nat) (l1 : List S48) (hr1 : Kd.C k48 w A1 l1.length l1) (hc1 : l1.length ≤ c1) (hy1 : l1.length * 16 ≤ 140737488351232) (hok1 : ∀ x ∈ l1, (Lit.int .i64 x.f0).wf = true ∧ (Lit.int .i64 x.f1).wf = true) (a2 : S42) (A2_2 : Option Addr) (c2_2 : Nat) (A2_3 : Option Addr) (c2_3 : Nat) (A2_6 : Option Addr) (c2_6 : Nat) (A2_7 : Option Addr) (c2_7 : Nat) (A2_10 : Option Addr) (c2_10 : Nat) (A2_11 : Option Addr) (c2_11 : Nat) (A2_12 : Option Addr) (c2_12 : Nat) (A2_13 : Option Addr) (c2_13 : Nat) (A2_14 : Option Addr) (c2_14 : Nat) (l2_2 : a2.f0.f2.length ≤ c2_2) (g2_2 : Kd.string.C w A2_2 a2.f0.f2.length a2.f0.f2) (l2_3 : a2.f0.f3.length ≤ c2_3) (g2_3 : k25.C w A2_3 a2.f0.f3.length a2.f0.f3) (l2_6 : a2.f1.f2.length ≤ c2_6) (g2_6 : Kd.string.C w A2_6 a2.f1.f2.length a2.f1.f2) (l2_7 : a2.f1.f3.length ≤ c2_7) (g2_7 : k25.C w A2_7 a2.f1.f3.length a2.f1.f3) (l2_10 : a2.f2.f2.length ≤ c2_10) (g2_10 : Kd.string.C w A2_10 a2.f2.f2.length a2.f2.f2) (l2_11 : a2.f2.f3.length ≤ c2_11) (g2_11 : k25.C w A2_11 a2.f2.f3.length a2.f2.f3) (l2_12 : a2.f3.f0.length ≤ c2_12) (g2_12 : (Kd.int .i64).C w A2_12 a2.f3.f0.length a2.f3.f0) (l2_13 : a2.f3.f1.length ≤ c2_13) (g2_13 : (Kd.int .i64).C w A2_13 a2.f3.f1.length a2.f3.f1) (l2_14 : a2.f3.f2.length ≤ c2_14) (g2_14 : (Kd.int .i64).C w A2_14 a2.f3.f2.length a2.f3.f2) (w2 : True) : Calls Try.prog 7 #[.slice A0 l0.length c0, .slice A1 l1.length c1, .agg #[.int .i64 a2.f0.f0, .string a2.f0.f1, .slice A2_2 a2.f0.f2.length c2_2, .slice A2_3 a2.f0.f3.length c2_3, .int .i64 a2.f1.f0, .string a2.f1.f1, .slice A2_6 a2.f1.f2.length c2_6, .slice A2_7 a2.f1.f3.length c2_7, .int .i64 a2.f2.f0, .string a2.f2.f1, .slice A2_10 a2.f2.f2.length c2_10, .slice A2_11 a2.f2.f3.length c2_11, .slice A2_12 a2.f3.f0.length c2_12, .slice A2_13 a2.f3.f1.length c2_13, .slice A2_14 a2.f3.f2.length c2_14, .int .i64 a2.f3.f3]] w fun e w' => e = .returned (.bool true) ∧ Below w.heap.size w w' := by
  obtain ⟨k, hk⟩ := (ChangeSides_ev l0 l1 a2.f0 a2.f1 a2.f2 a2.f3.f0 a2.f3.f1 a2.f3.f2 a2.f3.f3 (fun c hc => fit_of_wf (hok0 c hc).1) (fun c hc => fit_of_wf (hok1 c hc).1)).rounds
  exact treemergelaw31_ChangeSides.calls k A0 c0 l0 A1 c1 l1 a2.f0.f0 a2.f0.f1 A2_2 c2_2 _ A2_3 c2_3 _ a2.f1.f0 a2.f1.f1 A2_6 c2_6 _ A2_7 c2_7 _ a2.f2.f0 a2.f2.f1 A2_10 c2_10 _ A2_11 c2_11 _ A2_12 c2_12 _ A2_13 c2_13 _ A2_14 c2_14 _ a2.f3.f3 true w hr0 hc0 hr1 hc1 g2_2 l2_2 g2_3 l2_3 g2_6 l2_6 g2_7 l2_7 g2_10 l2_10 g2_11 l2_11 g2_12 l2_12 g2_13 l2_13 g2_14 l2_14 hk

end Go.Proofs.Ytcfjdehpbckomaa.Scratch
